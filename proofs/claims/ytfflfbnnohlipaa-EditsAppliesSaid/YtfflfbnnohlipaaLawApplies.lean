/- emendlaw07.EditsApplies: the walk. -/
import Derived.Test.YtfflfbnnohlipaaSortHere
import Derived.Test.YtfflfbnnohlipaaRefInvert
import Derived.Test.YtfflfbnnohlipaaSame
import Derived.Test.YtfflfbnnohlipaaFewOwn
import Derived.Test.YtfflfbnnohlipaaBack0
namespace Go.Proofs.Ytfflfbnnohlipaa
open Go.RowKit
set_option linter.unusedVariables false
set_option linter.unusedSimpArgs false

theorem chk_fits (n : Int) (l : List Spl) : (checkV n l == 0) = fitsV n l := by
  unfold checkV fitsV
  by_cases h1 : fitsFrom n 0 l = true
  · by_cases h2 : 0 ≤ n
    · simp [h1, h2]
    · simp [h1, h2]
  · simp [h1]

theorem own_nil {w : World} {B : Nat} {v : Value} {l : List Spl} (h : OwnS w B v l) : ∃ A c, v = .slice A l.length c ∧ Row w w.heap.size A l ∧ (A = none → l.length = 0 ∧ c = 0) := by
  obtain ⟨A, c, hv, hr⟩ := Own.row Spl.len h
  refine ⟨A, c, hv, hr, fun hA => ?_⟩
  subst hA
  rcases h.2 with ⟨hv2, h0⟩ | ⟨g, cap, cur, hv2, _⟩
  · rw [hv] at hv2; injection hv2 with _ _ e; exact ⟨h0, e⟩
  · rw [hv] at hv2; injection hv2 with e; cases e

set_option maxRecDepth 100000 in
set_option maxHeartbeats 6400000 in
theorem applies_yes (w : World) (text : ByteArray) (htx : text.size ≤ 9223372036854775807) (A : Option Addr) (c : Nat) (l : List Spl) (hl : l.length ≤ 9223372036854775807) (hr : Row w w.heap.size A l) (hfit : Fit l) (n : Int) (he : applyE (cutV text) (fewV l) = 0) :
    Calls Try.prog 9 #[.string text, .slice A l.length c, .int .i64 n] w fun e w' => e = .returned (.bool true) ∧ Below w.heap.size w w' := by
  have hsm := small_few l
  have hln := fewV_len l
  have H1 := Lib.hid (few_own A c l w hl hr hfit)
  have HF := Lib.hid (show ∀ W : World, Below w.heap.size w W → Calls Try.prog 11 #[.slice A l.length c] W fun e w' => RetRow Spl.cells 3 (fewV l) e w' ∧ Below W.heap.size W w' from fun W hb => few_any A c l W hl (hr.after (Nat.le_refl _) hb) hfit)
  have H0 := Lib.hid (cut_any text w htx)
  have hts := cutV_size text
  generalize fewV l = m at *
  generalize cutV text = t at *
  have HS := Lib.hid hsm
  have HL := Lib.hid hln
  have HE := Lib.hid he
  have HCF := Lib.hid (chk_fits n m)
  have HCF2 := Lib.hid (chk_fits t.size m)
  have hl0 : m.length ≤ 1000000 := by omega
  have HL0 := Lib.hid hl0
  have hi0 : (invertV t m).length ≤ 1000000 := by rw [invertV, invert_len]; omega
  have hs0 : (sortB m).length ≤ 1000000 := by rw [sortB_len]; omega
  have HI0 := Lib.hid hi0
  have HS0 := Lib.hid hs0
  have hsum : ∀ x ∈ m, x.text.size ≤ 1000000 := fun x hx => by have := HS.out x hx; omega
  have HSUM := Lib.hid hsum
  clear hsm hr hfit hl htx he hl0 hsum hi0 hs0 hln
  go_enter Try.func9, Try.ntmps9
  go_wp2_with fail
  refine H0.out.mono ?_
  rintro e w1 ⟨rfl, rfl⟩
  go_wp2_with fail
  refine H1.out.mono ?_
  rintro e w1 ⟨⟨v1, rfl, hown⟩, hb1⟩
  obtain ⟨A1, c1, rfl, r1, hn1⟩ := own_nil hown
  have HB1 := Lib.hid hb1
  have HR1 := Lib.hid r1
  have HN1 := Lib.hid hn1
  clear hown hb1 r1 hn1
  go_wp2_with fail
  refine (apply_small A1 c1 m t w1 HL.out HS.out (by omega) HR1.out).mono ?_
  rintro e w2 ⟨hret, hb2⟩
  have hret2 : e = .returned (.tuple #[.string (applyB t m), .int .i64 (applyE t m)]) := hret
  subst hret2
  have HB2 := Lib.hid (below_then HB1.out hb2)
  have HR2 := Lib.hid (HR1.out.after (Nat.le_refl _) hb2)
  clear hret hb2 HR1 HB1
  go_wp2_with fail
  refine (HF.out w2 HB2.out).mono ?_
  rintro e w3 ⟨⟨A3, c3, rfl, r3⟩, hb3⟩
  have HB3 := Lib.hid (below_then HB2.out hb3)
  have HR3 := Lib.hid (HR2.out.after (Nat.le_refl _) hb3)
  have HX3 := Lib.hid r3
  clear hb3 r3 HB2 HR2
  go_wp2_with fail
  refine (refApply_any A3 c3 m t w3 HL0.out (by omega) HSUM.out HX3.out).mono ?_
  rintro e w4 ⟨hret, hb4⟩
  have hret2 : e = .returned (.tuple #[.string (applyB t m), .int .i64 (applyE t m)]) := hret
  subst hret2
  have HB4 := Lib.hid (below_then HB3.out hb4)
  have HR4 := Lib.hid (HR3.out.after (Nat.le_refl _) hb4)
  clear hret hb4 HB3 HR3 HX3
  go_wp2_with fail
  refine (invert_yes A1 c1 m t w4 HL.out HS.out (by omega) HR4.out HE.out).mono ?_
  rintro e w5 ⟨⟨A5, c5, rfl, r5⟩, hb5⟩
  have HX5 := Lib.hid r5
  have HB5 := Lib.hid (below_then HB4.out hb5)
  have HR5 := Lib.hid (HR4.out.after (Nat.le_refl _) hb5)
  clear hb5 HB4 HR4 r5
  go_wp2_with fail
  refine (HF.out w5 HB5.out).mono ?_
  rintro e w6 ⟨⟨A6, c6, rfl, r6⟩, hb6⟩
  have HB6 := Lib.hid (below_then HB5.out hb6)
  have HR6 := Lib.hid (HR5.out.after (Nat.le_refl _) hb6)
  have HY6 := Lib.hid r6
  have HX6 := Lib.hid (HX5.out.after (Nat.le_refl _) hb6)
  clear hb6 r6 HB5 HR5 HX5
  go_wp2_with fail
  refine (refInvert_yes A6 c6 m t w6 HL.out HS.out (by omega) HY6.out HE.out).mono ?_
  rintro e w7 ⟨⟨A7, c7, rfl, r7⟩, hb7⟩
  have HX7 := Lib.hid (HX6.out.after (Nat.le_refl _) hb7)
  have HY7 := Lib.hid r7
  have HB7 := Lib.hid (below_then HB6.out hb7)
  have HR7 := Lib.hid (HR6.out.after (Nat.le_refl _) hb7)
  clear hb7 HB6 HR6 HY6 r7 HX6
  have he0 := HE.out
  rw [he0]
  clear he0
  generalize invertV t m = M at *
  go_wp2_with fail
  refine (same_any A5 c5 A7 c7 M w7 HI0.out HX7.out HY7.out).mono ?_
  rintro e w8 ⟨rfl, hb8⟩
  have HB8 := Lib.hid (below_then HB7.out hb8)
  have HR8 := Lib.hid (HR7.out.after (Nat.le_refl _) hb8)
  clear hb8 HB7 HR7 HX7 HY7
  go_wp2_with fail
  refine (sort_any A1 c1 m w8 (by have := HL.out; omega) HR8.out HN1.out).mono ?_
  rintro e w9 ⟨⟨A9, c9, rfl, r9⟩, hb9⟩
  have HX9 := Lib.hid r9
  have HB9 := Lib.hid (below_then HB8.out hb9)
  have HR9 := Lib.hid (HR8.out.after (Nat.le_refl _) hb9)
  clear hb9 r9 HB8 HR8
  go_wp2_with fail
  refine (HF.out w9 HB9.out).mono ?_
  rintro e w10 ⟨⟨A10, c10, rfl, r10⟩, hb10⟩
  have HX10 := Lib.hid (HX9.out.after (Nat.le_refl _) hb10)
  have HY10 := Lib.hid r10
  have HB10 := Lib.hid (below_then HB9.out hb10)
  have HR10 := Lib.hid (HR9.out.after (Nat.le_refl _) hb10)
  clear hb10 r10 HB9 HR9 HX9
  go_wp2_with fail
  refine (refSort_any A10 c10 m w10 (by have := HL.out; omega) HY10.out).mono ?_
  rintro e w11 ⟨⟨A11, c11, rfl, r11⟩, hb11⟩
  have HX11 := Lib.hid (HX10.out.after (Nat.le_refl _) hb11)
  have HY11 := Lib.hid r11
  have HB11 := Lib.hid (below_then HB10.out hb11)
  have HR11 := Lib.hid (HR10.out.after (Nat.le_refl _) hb11)
  clear hb11 r11 HB10 HR10 HX10 HY10
  go_wp2_with fail
  refine (same_any A9 c9 A11 c11 (sortB m) w11 HS0.out HX11.out HY11.out).mono ?_
  rintro e w12 ⟨rfl, hb12⟩
  have HB12 := Lib.hid (below_then HB11.out hb12)
  have HR12 := Lib.hid (HR11.out.after (Nat.le_refl _) hb12)
  clear hb12 HB11 HR11 HX11 HY11
  go_wp2_with fail
  refine (check_any n A1 c1 m w12 HL0.out HR12.out).mono ?_
  rintro e w13 ⟨rfl, hb13⟩
  have HB13 := Lib.hid (below_then HB12.out hb13)
  have HR13 := Lib.hid (HR12.out.after (Nat.le_refl _) hb13)
  clear hb13 HB12 HR12
  have hcf := HCF.out
  generalize checkV n m = kk at *
  go_wp2_with fail
  refine (fits_any n A1 c1 m w13 HL0.out HR13.out).mono ?_
  rintro e w14 ⟨rfl, q14, rfl⟩
  have HB14 := Lib.hid (below_draws HB13.out q14)
  have HR14 := Lib.hid (show Row (w13.drewN q14) (w13.drewN q14).heap.size A1 m from HR13.out.drewN q14)
  generalize w13.drewN q14 = w14 at *
  generalize fitsV n m = bb at *
  subst hcf
  go_wp2_with fail
  refine (check_any t.size A1 c1 m w14 HL0.out HR14.out).mono ?_
  rintro e w15 ⟨rfl, hb15⟩
  have HB15 := Lib.hid (below_then HB14.out hb15)
  have HR15 := Lib.hid (HR14.out.after (Nat.le_refl _) hb15)
  clear hb15 HB14 HR14
  have hcf := HCF2.out
  generalize checkV t.size m = kk2 at *
  go_wp2_with fail
  refine (fits_any t.size A1 c1 m w15 HL0.out HR15.out).mono ?_
  rintro e w16 ⟨rfl, q16, rfl⟩
  have HB16 := Lib.hid (below_draws HB15.out q16)
  have HR16 := Lib.hid (show Row (w15.drewN q16) (w15.drewN q16).heap.size A1 m from HR15.out.drewN q16)
  generalize w15.drewN q16 = w16 at *
  generalize fitsV t.size m = bb2 at *
  subst hcf
  go_wp2_with fail
  refine (HF.out w16 HB16.out).mono ?_
  rintro e w17 ⟨⟨A17, c17, rfl, r17⟩, hb17⟩
  have HX17 := Lib.hid r17
  have HB17 := Lib.hid (below_then HB16.out hb17)
  have HR17 := Lib.hid (HR16.out.after (Nat.le_refl _) hb17)
  clear hb17 r17
  go_wp2_with fail
  refine (same_any A1 c1 A17 c17 m w17 HL0.out HR17.out HX17.out).mono ?_
  rintro e w18 ⟨rfl, hb18⟩
  have HB18 := Lib.hid (below_then HB17.out hb18)
  clear hb18
  go_wp2_with fail
  refine (awake_any _).mono ?_
  rintro e w19 ⟨rfl, hb19⟩
  have HB19 := Lib.hid (below_then HB18.out hb19)
  clear hb19
  go_wp2_with fail
  go_ret
  exact ⟨rfl, HB19.out⟩

set_option maxRecDepth 100000 in
set_option maxHeartbeats 6400000 in
theorem applies_no (w : World) (text : ByteArray) (htx : text.size ≤ 9223372036854775807) (A : Option Addr) (c : Nat) (l : List Spl) (hl : l.length ≤ 9223372036854775807) (hr : Row w w.heap.size A l) (hfit : Fit l) (n : Int) (he : applyE (cutV text) (fewV l) ≠ 0) :
    Calls Try.prog 9 #[.string text, .slice A l.length c, .int .i64 n] w fun e w' => e = .returned (.bool true) ∧ Below w.heap.size w w' := by
  have hsm := small_few l
  have hln := fewV_len l
  have H1 := Lib.hid (few_own A c l w hl hr hfit)
  have HF := Lib.hid (show ∀ W : World, Below w.heap.size w W → Calls Try.prog 11 #[.slice A l.length c] W fun e w' => RetRow Spl.cells 3 (fewV l) e w' ∧ Below W.heap.size W w' from fun W hb => few_any A c l W hl (hr.after (Nat.le_refl _) hb) hfit)
  have H0 := Lib.hid (cut_any text w htx)
  have hts := cutV_size text
  generalize fewV l = m at *
  generalize cutV text = t at *
  have HS := Lib.hid hsm
  have HL := Lib.hid hln
  have HE := Lib.hid he
  have HCF := Lib.hid (chk_fits n m)
  have HCF2 := Lib.hid (chk_fits t.size m)
  have hl0 : m.length ≤ 1000000 := by omega
  have HL0 := Lib.hid hl0
  have hi0 : (invertV t m).length ≤ 1000000 := by rw [invertV, invert_len]; omega
  have hs0 : (sortB m).length ≤ 1000000 := by rw [sortB_len]; omega
  have HI0 := Lib.hid hi0
  have HS0 := Lib.hid hs0
  have hsum : ∀ x ∈ m, x.text.size ≤ 1000000 := fun x hx => by have := HS.out x hx; omega
  have HSUM := Lib.hid hsum
  clear hsm hr hfit hl htx he hl0 hsum hi0 hs0 hln
  go_enter Try.func9, Try.ntmps9
  go_wp2_with fail
  refine H0.out.mono ?_
  rintro e w1 ⟨rfl, rfl⟩
  go_wp2_with fail
  refine H1.out.mono ?_
  rintro e w1 ⟨⟨v1, rfl, hown⟩, hb1⟩
  obtain ⟨A1, c1, rfl, r1, hn1⟩ := own_nil hown
  have HB1 := Lib.hid hb1
  have HR1 := Lib.hid r1
  have HN1 := Lib.hid hn1
  clear hown hb1 r1 hn1
  go_wp2_with fail
  refine (apply_small A1 c1 m t w1 HL.out HS.out (by omega) HR1.out).mono ?_
  rintro e w2 ⟨hret, hb2⟩
  have hret2 : e = .returned (.tuple #[.string (applyB t m), .int .i64 (applyE t m)]) := hret
  subst hret2
  have HB2 := Lib.hid (below_then HB1.out hb2)
  have HR2 := Lib.hid (HR1.out.after (Nat.le_refl _) hb2)
  clear hret hb2 HR1 HB1
  go_wp2_with fail
  refine (HF.out w2 HB2.out).mono ?_
  rintro e w3 ⟨⟨A3, c3, rfl, r3⟩, hb3⟩
  have HB3 := Lib.hid (below_then HB2.out hb3)
  have HR3 := Lib.hid (HR2.out.after (Nat.le_refl _) hb3)
  have HX3 := Lib.hid r3
  clear hb3 r3 HB2 HR2
  go_wp2_with fail
  refine (refApply_any A3 c3 m t w3 HL0.out (by omega) HSUM.out HX3.out).mono ?_
  rintro e w4 ⟨hret, hb4⟩
  have hret2 : e = .returned (.tuple #[.string (applyB t m), .int .i64 (applyE t m)]) := hret
  subst hret2
  have HB4 := Lib.hid (below_then HB3.out hb4)
  have HR4 := Lib.hid (HR3.out.after (Nat.le_refl _) hb4)
  clear hret hb4 HB3 HR3 HX3
  go_wp2_with fail
  refine (invert_no A1 c1 m t w4 HL.out HS.out (by omega) HR4.out HE.out).mono ?_
  rintro e w5 ⟨rfl, hb5⟩
  have HB5 := Lib.hid (below_then HB4.out hb5)
  have HR5 := Lib.hid (HR4.out.after (Nat.le_refl _) hb5)
  clear hb5 HB4 HR4
  go_wp2_with fail
  refine (HF.out w5 HB5.out).mono ?_
  rintro e w6 ⟨⟨A6, c6, rfl, r6⟩, hb6⟩
  have HB6 := Lib.hid (below_then HB5.out hb6)
  have HR6 := Lib.hid (HR5.out.after (Nat.le_refl _) hb6)
  have HY6 := Lib.hid r6
  clear hb6 r6 HB5 HR5
  go_wp2_with fail
  refine (refInvert_no A6 c6 m t w6 HL.out HS.out (by omega) HY6.out HE.out).mono ?_
  rintro e w7 ⟨rfl, hb7⟩
  have HB7 := Lib.hid (below_then HB6.out hb7)
  have HR7 := Lib.hid (HR6.out.after (Nat.le_refl _) hb7)
  clear hb7 HB6 HR6 HY6
  go_wp2_with fail
  refine (same_any none 0 none 0 [] w7 (by simp) RowOf.nil_ RowOf.nil_).mono ?_
  rintro e w8 ⟨rfl, hb8⟩
  have HB8 := Lib.hid (below_then HB7.out hb8)
  have HR8 := Lib.hid (HR7.out.after (Nat.le_refl _) hb8)
  clear hb8 HB7 HR7
  go_wp2_with fail
  refine (sort_any A1 c1 m w8 (by have := HL.out; omega) HR8.out HN1.out).mono ?_
  rintro e w9 ⟨⟨A9, c9, rfl, r9⟩, hb9⟩
  have HX9 := Lib.hid r9
  have HB9 := Lib.hid (below_then HB8.out hb9)
  have HR9 := Lib.hid (HR8.out.after (Nat.le_refl _) hb9)
  clear hb9 r9 HB8 HR8
  go_wp2_with fail
  refine (HF.out w9 HB9.out).mono ?_
  rintro e w10 ⟨⟨A10, c10, rfl, r10⟩, hb10⟩
  have HX10 := Lib.hid (HX9.out.after (Nat.le_refl _) hb10)
  have HY10 := Lib.hid r10
  have HB10 := Lib.hid (below_then HB9.out hb10)
  have HR10 := Lib.hid (HR9.out.after (Nat.le_refl _) hb10)
  clear hb10 r10 HB9 HR9 HX9
  go_wp2_with fail
  refine (refSort_any A10 c10 m w10 (by have := HL.out; omega) HY10.out).mono ?_
  rintro e w11 ⟨⟨A11, c11, rfl, r11⟩, hb11⟩
  have HX11 := Lib.hid (HX10.out.after (Nat.le_refl _) hb11)
  have HY11 := Lib.hid r11
  have HB11 := Lib.hid (below_then HB10.out hb11)
  have HR11 := Lib.hid (HR10.out.after (Nat.le_refl _) hb11)
  clear hb11 r11 HB10 HR10 HX10 HY10
  go_wp2_with fail
  refine (same_any A9 c9 A11 c11 (sortB m) w11 HS0.out HX11.out HY11.out).mono ?_
  rintro e w12 ⟨rfl, hb12⟩
  have HB12 := Lib.hid (below_then HB11.out hb12)
  have HR12 := Lib.hid (HR11.out.after (Nat.le_refl _) hb12)
  clear hb12 HB11 HR11 HX11 HY11
  go_wp2_with fail
  refine (check_any n A1 c1 m w12 HL0.out HR12.out).mono ?_
  rintro e w13 ⟨rfl, hb13⟩
  have HB13 := Lib.hid (below_then HB12.out hb13)
  have HR13 := Lib.hid (HR12.out.after (Nat.le_refl _) hb13)
  clear hb13 HB12 HR12
  have hcf := HCF.out
  generalize checkV n m = kk at *
  go_wp2_with fail
  refine (fits_any n A1 c1 m w13 HL0.out HR13.out).mono ?_
  rintro e w14 ⟨rfl, q14, rfl⟩
  have HB14 := Lib.hid (below_draws HB13.out q14)
  have HR14 := Lib.hid (show Row (w13.drewN q14) (w13.drewN q14).heap.size A1 m from HR13.out.drewN q14)
  generalize w13.drewN q14 = w14 at *
  generalize fitsV n m = bb at *
  subst hcf
  go_wp2_with fail
  refine (check_any t.size A1 c1 m w14 HL0.out HR14.out).mono ?_
  rintro e w15 ⟨rfl, hb15⟩
  have HB15 := Lib.hid (below_then HB14.out hb15)
  have HR15 := Lib.hid (HR14.out.after (Nat.le_refl _) hb15)
  clear hb15 HB14 HR14
  have hcf := HCF2.out
  generalize checkV t.size m = kk2 at *
  go_wp2_with fail
  refine (fits_any t.size A1 c1 m w15 HL0.out HR15.out).mono ?_
  rintro e w16 ⟨rfl, q16, rfl⟩
  have HB16 := Lib.hid (below_draws HB15.out q16)
  have HR16 := Lib.hid (show Row (w15.drewN q16) (w15.drewN q16).heap.size A1 m from HR15.out.drewN q16)
  generalize w15.drewN q16 = w16 at *
  generalize fitsV t.size m = bb2 at *
  subst hcf
  go_wp2_with fail
  refine (HF.out w16 HB16.out).mono ?_
  rintro e w17 ⟨⟨A17, c17, rfl, r17⟩, hb17⟩
  have HX17 := Lib.hid r17
  have HB17 := Lib.hid (below_then HB16.out hb17)
  have HR17 := Lib.hid (HR16.out.after (Nat.le_refl _) hb17)
  clear hb17 r17
  go_wp2_with fail
  refine (same_any A1 c1 A17 c17 m w17 HL0.out HR17.out HX17.out).mono ?_
  rintro e w18 ⟨rfl, hb18⟩
  have HB18 := Lib.hid (below_then HB17.out hb18)
  clear hb18
  go_wp2_with fail
  refine (awake_any _).mono ?_
  rintro e w19 ⟨rfl, hb19⟩
  have HB19 := Lib.hid (below_then HB18.out hb19)
  clear hb19
  go_wp2_with fail
  go_ret
  exact ⟨rfl, HB19.out⟩

theorem rowApplies (w : World) (text : ByteArray) (htx : text.size ≤ 9223372036854775807) (A : Option Addr) (c : Nat) (l : List Spl) (hl : l.length ≤ 9223372036854775807) (hr : Row w w.heap.size A l) (hfit : Fit l) (n : Int) (wn : (Lit.int .i64 n).wf = true) :
    Calls Try.prog 9 #[.string text, .slice A l.length c, .int .i64 n] w fun e w' => e = .returned (.bool true) ∧ Below w.heap.size w w' := by
  by_cases he : applyE (cutV text) (fewV l) = 0
  · exact applies_yes w text htx A c l hl hr hfit n he
  · exact applies_no w text htx A c l hl hr hfit n he
end Go.Proofs.Ytfflfbnnohlipaa
