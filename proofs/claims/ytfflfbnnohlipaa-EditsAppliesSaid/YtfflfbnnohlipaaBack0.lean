/- For any text and any splices, emendlaw07.EditsBack returns true: what Invert tells fits what Apply makes, and leads back. No condition. -/
import Derived.Test.YtfflfbnnohlipaaInvert
import Derived.Test.YtfflfbnnohlipaaRead
namespace Go.Proofs.Ytfflfbnnohlipaa
open Go.RowKit
set_option linter.unusedVariables false
set_option linter.unusedSimpArgs false

theorem check_small {text : ByteArray} {m : List Spl} (hm : m.length ≤ 30) (hs : Small m) (ht : text.size ≤ 1500) : checkV text.size m = if applyE text m = 0 then 0 else 2 := by
  unfold checkV applyE
  by_cases hf : fitsFrom text.size 0 m = true
  · have := total_small hm hs hf
    rw [if_pos ⟨hf, by omega⟩, if_pos hf, if_pos (by omega)]
  · rw [if_neg (by rintro ⟨h, _⟩; exact hf h), if_neg hf]
    rfl

theorem unfit_small {text : ByteArray} {m : List Spl} (hm : m.length ≤ 30) (hs : Small m) (ht : text.size ≤ 1500) (he : applyE text m ≠ 0) : applyE text m = 2 ∧ applyB text m = ⟨#[]⟩ := by
  refine ⟨?_, by rw [applyB, if_neg he]⟩
  unfold applyE at he ⊢
  by_cases hf : fitsFrom text.size 0 m = true
  · have := total_small hm hs hf
    rw [if_pos hf, if_pos (by omega)] at he
    exact absurd rfl he
  · rw [if_neg hf]

set_option maxRecDepth 100000 in
set_option maxHeartbeats 3200000 in
theorem lawBack (w : World) (text : ByteArray) (htx : text.size ≤ 9223372036854775807) (A : Option Addr) (c : Nat) (l : List Spl) (hl : l.length ≤ 9223372036854775807) (hr : Row w w.heap.size A l) (hfit : Fit l) :
    Calls Try.prog 5 #[.string text, .slice A l.length c] w fun e w' => e = .returned (.bool true) ∧ Below w.heap.size w w' := by
  have hsm := small_few l
  have hln := fewV_len l
  have h1 := few_any A c l w hl hr hfit
  have h0 := cut_any text w htx
  have hts := cutV_size text
  generalize fewV l = m at *
  generalize cutV text = t at *
  have H1 := Lib.hid h1
  have H0 := Lib.hid h0
  have HS := Lib.hid hsm
  have HL := Lib.hid hln
  clear hsm h1 hr hfit hl h0 htx
  by_cases he : applyE t m = 0
  · have HE := Lib.hid he
    obtain ⟨b1, b2, b3⟩ := back_all he (by omega)
    have hck := check_small hln HS.out hts
    rw [if_pos he] at hck
    have hl2 : (invertV t m).length = m.length := invert_len _ _ _
    have d1 : (((invertV t m).length : Int) == (m.length : Int)) = true := by rw [hl2]; simp
    have hl3 : (invertV t m).length ≤ 1000000 := by omega
    have HB1 := Lib.hid b1
    have HB2 := Lib.hid b2
    have HB3 := Lib.hid b3
    have HCK := Lib.hid hck
    have HL3 := Lib.hid hl3
    clear he b1 b2 b3 hck hl2 hl3
    go_enter Try.func5, Try.ntmps5
    go_wp2_with fail
    refine H0.out.mono ?_
    rintro e w1 ⟨rfl, rfl⟩
    go_wp2_with fail
    refine H1.out.mono ?_
    rintro e w1 ⟨⟨A1, c1, rfl, r1⟩, hb1⟩
    go_wp2_with fail
    refine (apply_small A1 c1 m t _ HL.out HS.out (by omega) r1).mono ?_
    rintro e w2 ⟨hret, hb2⟩
    have hret2 : e = .returned (.tuple #[.string (applyB t m), .int .i64 0]) := by rw [hret, HE.out]
    subst hret2
    have r2 := r1.after (Nat.le_refl _) hb2
    clear hret r1
    go_wp2_with fail
    refine (invert_yes A1 c1 m t _ HL.out HS.out (by omega) r2 HE.out).mono ?_
    rintro e w3 ⟨⟨A3, c3, rfl, r3⟩, hb3⟩
    have r2' := r2.after (Nat.le_refl _) hb3
    have hb := below_then (below_then hb1 hb2) hb3
    clear r2 hb1 hb2 hb3
    have HR2 := Lib.hid r2'
    have HR3 := Lib.hid r3
    clear r2' r3
    go_wp2_with fail
    refine (check_any t.size A1 c1 m _ (by have := HL.out; omega) HR2.out).mono ?_
    rintro e w4 ⟨hret, hb4⟩
    rw [HCK.out] at hret
    subst hret
    have r3 := HR3.out.after (Nat.le_refl _) hb4
    have HR4 := Lib.hid r3
    clear r3
    have hbb := below_then hb hb4
    clear hb hb4
    go_wp2_with fail
    refine (apply_any A3 c3 (invertV t m) (applyB t m) _ HL3.out (by have := HB3.out; omega) HR4.out).mono ?_
    rintro e w5 ⟨hret, hb5⟩
    have hret2 : e = .returned (.tuple #[.string t, .int .i64 0]) := by rw [hret, HB1.out, HB2.out]
    subst hret2
    clear hret
    go_wp2_with (go_at_call 14; refine (awake_any _).mono ?_; rintro e w6 ⟨rfl, hb6⟩)
    go_ret
    exact ⟨rfl, below_then (below_then hbb hb5) hb6⟩
  · have hck := check_small hln HS.out hts
    rw [if_neg he] at hck
    obtain ⟨u1, u2⟩ := unfit_small hln HS.out hts he
    have HE := Lib.hid he
    have HCK := Lib.hid hck
    have HU1 := Lib.hid u1
    have HU2 := Lib.hid u2
    clear he hck u1 u2
    go_enter Try.func5, Try.ntmps5
    go_wp2_with fail
    refine H0.out.mono ?_
    rintro e w1 ⟨rfl, rfl⟩
    go_wp2_with fail
    refine H1.out.mono ?_
    rintro e w1 ⟨⟨A1, c1, rfl, r1⟩, hb1⟩
    go_wp2_with fail
    refine (apply_small A1 c1 m t _ HL.out HS.out (by omega) r1).mono ?_
    rintro e w2 ⟨hret, hb2⟩
    have hret2 : e = .returned (.tuple #[.string ⟨#[]⟩, .int .i64 2]) := by rw [hret, HU1.out, HU2.out]
    subst hret2
    have r2 := r1.after (Nat.le_refl _) hb2
    clear hret r1
    go_wp2_with fail
    refine (invert_no A1 c1 m t _ HL.out HS.out (by omega) r2 HE.out).mono ?_
    rintro e w3 ⟨hret, hb3⟩
    rw [HU1.out] at hret
    subst hret
    have r2' := r2.after (Nat.le_refl _) hb3
    have hb := below_then (below_then hb1 hb2) hb3
    clear r2 hb1 hb2 hb3
    have HR2 := Lib.hid r2'
    clear r2'
    go_wp2_with fail
    refine (check_any t.size A1 c1 m _ (by have := HL.out; omega) HR2.out).mono ?_
    rintro e w4 ⟨hret, hb4⟩
    rw [HCK.out] at hret
    subst hret
    go_wp2_with (go_at_call 14; refine (awake_any _).mono ?_; rintro e w6 ⟨rfl, hb6⟩)
    go_ret
    exact ⟨rfl, below_then (below_then hb hb4) hb6⟩
end Go.Proofs.Ytfflfbnnohlipaa
