/- slices.symMergeCmpFunc at splices, by Sort's order: the whole. -/
import Derived.Test.YtfflfbnnohlipaaSymM
import Derived.Deep.DeepCutAuto
namespace Go.Proofs.Ytfflfbnnohlipaa
open Go.RowKit
set_option linter.unusedVariables false
set_option linter.unusedSimpArgs false
variable {K : Nat → Spl} {w w' : World} {g n : Nat} {t : Nat → Nat}

theorem rot_none (t : Nat → Nat) {s m e : Nat} (h1 : s ≤ m) (h2 : m ≤ e) (h : ¬ (s < m ∧ m < e)) : rot t s m e = t := by
  funext x
  unfold rot
  repeat' split
  all_goals first | omega | (congr 1; omega) | rfl

set_option maxRecDepth 1000000 in
set_option maxHeartbeats 3200000 in
theorem sym_any (N : Nat) (ix : Nat → Nat) (hT : Tells K ix N) (hn : n ≤ 1000) : ∀ (d c a m b : Nat) (t : Nat → Nat) (w : World), b - a ≤ d → a < m → m < b → b ≤ n → (∀ k, k < n → t k < N) → Halves ix t a m b → Arr K w g t n →
    Calls Try.prog 54 #[.slice (some ⟨g, 0, none⟩) n c, .int .i64 a, .int .i64 m, .int .i64 b, .func (.func 43) #[] #[]] w fun e w' => e = .returned (.tuple #[]) ∧ Ordered K g n t a b w' ∧ But g w w' := by
  intro d
  induction d with
  | zero => intro c a m b t w h1 h2 h3; omega
  | succ d ih =>
    intro c a m b t w hd ham hmb hbn hlt hh h
    by_cases hm1 : m = a + 1
    · exact sym_left c a m b N ix hT hn hm1 hmb hbn hlt hh h
    by_cases hm2 : b = m + 1
    · exact sym_right c a m b N ix hT hn hm1 hm2 ham hbn hlt hh h
    have HA := Lib.hid h
    have HH := Lib.hid hh
    have HT := Lib.hid hT
    have HL := Lib.hid hlt
    have IH := Lib.hid ih
    obtain ⟨mid, hmid⟩ : ∃ mid, mid = (a + b) / 2 := ⟨_, rfl⟩
    obtain ⟨n0, hn0⟩ : ∃ n0, n0 = mid + m := ⟨_, rfl⟩
    have emid : ((a : Int) + (b : Int)) / 2 = (mid : Int) := by omega
    have en0 : (mid : Int) + (m : Int) = (n0 : Int) := by omega
    have e0 : ((m : Int) - (a : Int) == 1) = false := by simp; omega
    have e1 : ((b : Int) - (m : Int) == 1) = false := by simp; omega
    obtain ⟨p0, hp0⟩ : ∃ p0 : Nat, p0 + 1 = n0 := ⟨n0 - 1, by omega⟩
    have ep : (n0 : Int) - 1 = (p0 : Int) := by omega
    have HMID := Lib.hid hmid
    have HN0 := Lib.hid hn0
    have hab : a < mid ∧ mid < b := by omega
    obtain ⟨hab1, hab2⟩ := hab
    obtain ⟨lo, hi, hlo⟩ : ∃ lo hi, (mid < m ∧ lo = n0 - b ∧ hi = mid) ∨ (m ≤ mid ∧ lo = a ∧ hi = m) := by
      rcases Nat.lt_or_ge mid m with hc | hc
      · exact ⟨_, _, .inl ⟨hc, rfl, rfl⟩⟩
      · exact ⟨_, _, .inr ⟨hc, rfl, rfl⟩⟩
    have HLO := Lib.hid hlo
    have hc : (mid < m ∧ (n0 : Int) - (b : Int) = (lo : Int)) ∨ m ≤ mid := by omega
    clear h hh hT hlt hmid hn0 ih hm1 hm2 hlo
    rcases hc with ⟨hc, ebb⟩ | hc
    · go_enter Try.func54, Try.ntmps54
      go_wp2_with fail
      go_loopw [20, 21, 23] (fun u v _ wr => ∃ (s r : Nat), u = .int .i64 s ∧ v = .int .i64 r ∧ Search t n0 lo hi s r ∧ Arr K wr g t n ∧ But g w wr) (fun u v _ _ => (intOf v).toNat - (intOf u).toNat)
      case atStart => exact ⟨lo, mid, rfl, rfl, by have := HN0.out; have := HMID.out; have := HLO.out; exact ⟨by omega, by omega, by omega, fun h => by omega, fun h => by omega⟩, HA.out, But.refl _ _⟩
      case round =>
        obtain ⟨s, r, rfl, rfl, hs, harr, hbut⟩ := hrel
        have h1 := hs.l1
        have h2 := hs.l2
        have h3 := hs.l3
        have HSE := Lib.hid hs
        have HR := Lib.hid harr
        have HB := Lib.hid hbut
        have hmm := HMID.out
        have hnn := HN0.out
        clear hs harr hbut
        by_cases hij : s < r
        · obtain ⟨q, eq⟩ : ∃ q : Nat, ((s : Int) + (r : Int)) / 2 = (q : Int) := ⟨(s + r) / 2, by omega⟩
          have hq1 : s ≤ q := by omega
          have hq2 : q < r := by omega
          obtain ⟨z, hz⟩ : ∃ z : Nat, n0 - 1 - q = z := ⟨_, rfl⟩
          have f1 : a ≤ q ∧ q < m ∧ m ≤ z ∧ z < b ∧ z + q + 1 = n0 := by rcases HLO.out with ⟨c1, c2, c3⟩ | ⟨c1, c2, c3⟩ <;> omega
          obtain ⟨f1, f2, f3, f4, f5⟩ := f1
          have HZ := Lib.hid hz
          have epq : (p0 : Int) - (q : Int) = (z : Int) := by omega
          have epw : IntKind.i64.wrap ((p0 : Int) - (q : Int)) = (z : Int) := by rw [epq]; exact Go.IntWalk.i64_in _ (by omega)
          have epw2 : IntKind.i64.wrap (z : Int) = (z : Int) := Go.IntWalk.i64_in _ (by omega)
          clear hz
          have i1 : (q : Int) < (n : Int) := by omega
          have i2 : (z : Int) < (n : Int) := by omega
          have HIX := Lib.hid (HH.out.before q z f1 f2 f3 f4)
          clear hmm hnn
          have x1 := HR.out.at_ z (by omega)
          have x2 := HR.out.at_ q (by omega)
          have q1 := HT.out.yes (HL.out z (by omega)) (HL.out q (by omega)) HIX.out
          have q2 := HT.out.no (HL.out z (by omega)) (HL.out q (by omega)) HIX.out
          have HQ1 := Lib.hid q1
          have HQ2 := Lib.hid q2
          clear q1 q2
          obtain ⟨x, hx⟩ : ∃ zz, K (t z) = zz := ⟨_, rfl⟩
          obtain ⟨y, hy⟩ : ∃ zz, K (t q) = zz := ⟨_, rfl⟩
          rw [hx] at x1 HQ1 HQ2
          rw [hy] at x2 HQ1 HQ2
          have HP := Lib.hid hx
          have HQ := Lib.hid hy
          clear hx hy
          have hg := HR.out.lt
          obtain ⟨xf, xt, xx⟩ := x
          obtain ⟨yf, yt, yx⟩ := y
          obtain ⟨u1, u2, u3⟩ := x1
          obtain ⟨v1, v2, v3⟩ := x2
          dsimp only at u1 u2 u3 v1 v2 v3
          have HO := Lib.hid (order_any ⟨xf, xt, xx⟩ ⟨yf, yt, yx⟩ wr.drew)
          have HS := Lib.hid (splV_lt ⟨xf, xt, xx⟩ ⟨yf, yt, yx⟩)
          obtain ⟨v, hv⟩ : ∃ v, splV ⟨xf, xt, xx⟩ ⟨yf, yt, yx⟩ = v := ⟨_, rfl⟩
          rw [hv] at HO HS
          clear hv
          dsimp only at HO
          by_cases hlt0 : v < 0
          · have HK := Lib.hid (HQ1.out (HS.out.1 hlt0))
            go_wp2_with fail
            go_region_held3 (fun w' => w'.cell? ⟨g, z * 3, none⟩ = some (.int .i64 xf) ∧ w'.cell? ⟨g, z * 3 + 1, none⟩ = some (.int .i64 xt) ∧ w'.cell? ⟨g, z * 3 + 2, none⟩ = some (.string xx) ∧ w'.cell? ⟨g, q * 3, none⟩ = some (.int .i64 yf) ∧ w'.cell? ⟨g, q * 3 + 1, none⟩ = some (.int .i64 yt) ∧ w'.cell? ⟨g, q * 3 + 2, none⟩ = some (.string yx))
              (first | go_keep | exact ⟨(hb3.cell (p := ⟨g, z * 3, none⟩) hg).trans u1, (hb3.cell (p := ⟨g, z * 3 + 1, none⟩) hg).trans u2, (hb3.cell (p := ⟨g, z * 3 + 2, none⟩) hg).trans u3, (hb3.cell (p := ⟨g, q * 3, none⟩) hg).trans v1, (hb3.cell (p := ⟨g, q * 3 + 1, none⟩) hg).trans v2, (hb3.cell (p := ⟨g, q * 3 + 2, none⟩) hg).trans v3⟩)
              (first | (go_at_call 43; refine HO.out.mono ?_; rintro e w3 ⟨rfl, hb3⟩))
            have hbq : But g wr w3 := (But.refl g wr).drew.trans (But.of_below (g := g) (a := wr.drew) hb3)
            have hr3 := (show Arr K wr.drew g t n from HR.out).below hb3
            have HB3 := Lib.hid hbq
            have HR3 := Lib.hid hr3
            clear hb3 hbq hr3 u1 u2 u3 v1 v2 v3
            have hlt1 : v < (0 : Int) := hlt0
            have hlt2 : decide (v < (0 : Int)) = true := by simpa using hlt0
            go_wp2_with fail
            go_roundw
            case rel => exact ⟨s, q, rfl, rfl, ⟨h1, hq1, by omega, HSE.out.low, fun _ => by rw [HZ.out]; exact HK.out⟩, HR3.out, HB.out.trans HB3.out⟩
            case measure => simp [intOf]; omega
          · have hav : aheadV ⟨xf, xt, xx⟩ ⟨yf, yt, yx⟩ = false := by
              cases hc : aheadV ⟨xf, xt, xx⟩ ⟨yf, yt, yx⟩
              · rfl
              · exact absurd (HS.out.2 hc) hlt0
            have HK := Lib.hid (HQ2.out hav)
            clear hav
            have hge : ¬ v < (0 : Int) := by omega
            have hge2 : (0 : Int) ≤ v := by omega
            have hge3 : decide (v < (0 : Int)) = false := by simpa using hge
            go_wp2_with fail
            go_region_held3 (fun w' => w'.cell? ⟨g, z * 3, none⟩ = some (.int .i64 xf) ∧ w'.cell? ⟨g, z * 3 + 1, none⟩ = some (.int .i64 xt) ∧ w'.cell? ⟨g, z * 3 + 2, none⟩ = some (.string xx) ∧ w'.cell? ⟨g, q * 3, none⟩ = some (.int .i64 yf) ∧ w'.cell? ⟨g, q * 3 + 1, none⟩ = some (.int .i64 yt) ∧ w'.cell? ⟨g, q * 3 + 2, none⟩ = some (.string yx))
              (first | go_keep | exact ⟨(hb3.cell (p := ⟨g, z * 3, none⟩) hg).trans u1, (hb3.cell (p := ⟨g, z * 3 + 1, none⟩) hg).trans u2, (hb3.cell (p := ⟨g, z * 3 + 2, none⟩) hg).trans u3, (hb3.cell (p := ⟨g, q * 3, none⟩) hg).trans v1, (hb3.cell (p := ⟨g, q * 3 + 1, none⟩) hg).trans v2, (hb3.cell (p := ⟨g, q * 3 + 2, none⟩) hg).trans v3⟩)
              (first | (go_at_call 43; refine HO.out.mono ?_; rintro e w3 ⟨rfl, hb3⟩))
            have hbq : But g wr w3 := (But.refl g wr).drew.trans (But.of_below (g := g) (a := wr.drew) hb3)
            have hr3 := (show Arr K wr.drew g t n from HR.out).below hb3
            have HB3 := Lib.hid hbq
            have HR3 := Lib.hid hr3
            clear hb3 hbq hr3 u1 u2 u3 v1 v2 v3
            go_wp2_with fail
            go_roundw
            case rel => exact ⟨q + 1, r, by go_num, rfl, ⟨by omega, by omega, h3, fun _ => by have := HK.out; rwa [show n0 - (q + 1) = z by omega], HSE.out.high⟩, HR3.out, HB.out.trans HB3.out⟩
            case measure => simp [intOf]; omega
        · obtain rfl : s = r := by omega
          obtain ⟨f1, f2, f3, f4, f5, f6, HL1, HR1, HI1, HX1⟩ := rot_halves HH.out ham hmb hmm hnn HLO.out HSE.out
          obtain ⟨e, he⟩ : ∃ e, n0 - s = e := ⟨_, rfl⟩
          rw [he] at f3 f4 f6 HL1 HR1 HI1 HX1
          have ee : (n0 : Int) - (s : Int) = (e : Int) := by omega
          have g1 : (e = mid) = (s = m) := by simp; omega
          have hre : e + s = mid + m := by omega
          have GL := Lib.hid HL1
          have GR := Lib.hid HR1
          have GI := Lib.hid HI1
          have GX := Lib.hid HX1
          clear HL1 HR1 HI1 HX1 hmm hnn he g1
          have HLR := Lib.hid (GI.out.bound hbn HL.out)
          obtain ⟨u, hu⟩ : ∃ u, rot t s m e = u := ⟨_, rfl⟩
          have HU := Lib.hid hu
          rw [hu] at GL GR GI GX HLR
          clear hu
          by_cases c1 : s < m
          · have d1 : mid < e := by omega
            by_cases c2 : m < e
            · have d2 : s < mid := by omega
              by_cases c3 : a < s
              · by_cases c4 : e < b
                · go_wp2_with fail
                  refine (rotate_any (K := K) _ _ s m e hn c1 c2 (by omega) HR.out).mono ?_
                  rintro e' w1 ⟨rfl, ha1, hb1⟩
                  rw [HU.out] at ha1
                  have HA1 := Lib.hid ha1
                  have HB1 := Lib.hid (HB.out.trans hb1)
                  clear ha1 hb1
                  go_wp2_with fail
                  refine (IH.out _ a s mid u _ (by omega) c3 d2 (by omega) HLR.out GL.out HA1.out).mono ?_
                  rintro e' w2 ⟨rfl, ⟨u1, hmg, ha2⟩, hb2⟩
                  have HM1 := Lib.hid hmg
                  have HA2 := Lib.hid ha2
                  have HB2 := Lib.hid (HB1.out.trans hb2)
                  clear ha2 hb2 hmg
                  go_wp2_with fail
                  refine (IH.out _ mid e b u1 _ (by omega) d1 c4 hbn (Img.bound (HM1.out).img (by omega) HLR.out) (GR.out.keep (fun k k1 k2 => (HM1.out).img.2 k (by omega)) f6 f4) HA2.out).mono ?_
                  rintro e' w3 ⟨rfl, ⟨u2, hmg2, ha3⟩, hb3⟩
                  have HM2 := Lib.hid hmg2
                  have HA3 := Lib.hid ha3
                  have HB3 := Lib.hid (HB2.out.trans hb3)
                  clear ha3 hb3 hmg2
                  go_wp2_with fail
                  go_end0
                  exact ⟨rfl, ⟨_, merged_both (by omega) (by omega) GI.out GX.out HM1.out HM2.out, HA3.out⟩, HB3.out⟩
                · go_wp2_with fail
                  refine (rotate_any (K := K) _ _ s m e hn c1 c2 (by omega) HR.out).mono ?_
                  rintro e' w1 ⟨rfl, ha1, hb1⟩
                  rw [HU.out] at ha1
                  have HA1 := Lib.hid ha1
                  have HB1 := Lib.hid (HB.out.trans hb1)
                  clear ha1 hb1
                  go_wp2_with fail
                  refine (IH.out _ a s mid u _ (by omega) c3 d2 (by omega) HLR.out GL.out HA1.out).mono ?_
                  rintro e' w2 ⟨rfl, ⟨u1, hmg, ha2⟩, hb2⟩
                  have HM1 := Lib.hid hmg
                  have HA2 := Lib.hid ha2
                  have HB2 := Lib.hid (HB1.out.trans hb2)
                  clear ha2 hb2 hmg
                  go_wp2_with fail
                  go_end0
                  exact ⟨rfl, ⟨_, merged_both (by omega) (by omega) GI.out GX.out HM1.out (Merged.refl_of ((GR.out.keep (fun k k1 k2 => (HM1.out).img.2 k (by omega)) f6 f4).one (by omega))), HA2.out⟩, HB2.out⟩
              · by_cases c4 : e < b
                · go_wp2_with fail
                  refine (rotate_any (K := K) _ _ s m e hn c1 c2 (by omega) HR.out).mono ?_
                  rintro e' w1 ⟨rfl, ha1, hb1⟩
                  rw [HU.out] at ha1
                  have HA1 := Lib.hid ha1
                  have HB1 := Lib.hid (HB.out.trans hb1)
                  clear ha1 hb1
                  go_wp2_with fail
                  refine (IH.out _ mid e b u _ (by omega) d1 c4 hbn (Img.bound ((Merged.refl_of (GL.out.one (by omega)))).img (by omega) HLR.out) (GR.out.keep (fun k k1 k2 => ((Merged.refl_of (GL.out.one (by omega)))).img.2 k (by omega)) f6 f4) HA1.out).mono ?_
                  rintro e' w3 ⟨rfl, ⟨u2, hmg2, ha3⟩, hb3⟩
                  have HM2 := Lib.hid hmg2
                  have HA3 := Lib.hid ha3
                  have HB3 := Lib.hid (HB1.out.trans hb3)
                  clear ha3 hb3 hmg2
                  go_wp2_with fail
                  go_end0
                  exact ⟨rfl, ⟨_, merged_both (by omega) (by omega) GI.out GX.out (Merged.refl_of (GL.out.one (by omega))) HM2.out, HA3.out⟩, HB3.out⟩
                · go_wp2_with fail
                  refine (rotate_any (K := K) _ _ s m e hn c1 c2 (by omega) HR.out).mono ?_
                  rintro e' w1 ⟨rfl, ha1, hb1⟩
                  rw [HU.out] at ha1
                  have HA1 := Lib.hid ha1
                  have HB1 := Lib.hid (HB.out.trans hb1)
                  clear ha1 hb1
                  go_wp2_with fail
                  go_end0
                  exact ⟨rfl, ⟨_, merged_both (by omega) (by omega) GI.out GX.out (Merged.refl_of (GL.out.one (by omega))) (Merged.refl_of ((GR.out.keep (fun k k1 k2 => ((Merged.refl_of (GL.out.one (by omega)))).img.2 k (by omega)) f6 f4).one (by omega))), HA1.out⟩, HB1.out⟩
            · have d2 : ¬ s < mid := by omega
              by_cases c3 : a < s
              · by_cases c4 : e < b
                · have HN := HU.out.symm.trans (rot_none t f2 f3 (fun h => c2 h.2))
                  have HA1 := Lib.hid (show Arr K wr g u n by rw [HN]; exact HR.out)
                  have HB1 := Lib.hid HB.out
                  clear HN
                  go_wp2_with fail
                  refine (IH.out _ mid e b u _ (by omega) d1 c4 hbn (Img.bound ((Merged.refl_of (GL.out.one (by omega)))).img (by omega) HLR.out) (GR.out.keep (fun k k1 k2 => ((Merged.refl_of (GL.out.one (by omega)))).img.2 k (by omega)) f6 f4) HA1.out).mono ?_
                  rintro e' w3 ⟨rfl, ⟨u2, hmg2, ha3⟩, hb3⟩
                  have HM2 := Lib.hid hmg2
                  have HA3 := Lib.hid ha3
                  have HB3 := Lib.hid (HB1.out.trans hb3)
                  clear ha3 hb3 hmg2
                  go_wp2_with fail
                  go_end0
                  exact ⟨rfl, ⟨_, merged_both (by omega) (by omega) GI.out GX.out (Merged.refl_of (GL.out.one (by omega))) HM2.out, HA3.out⟩, HB3.out⟩
                · have HN := HU.out.symm.trans (rot_none t f2 f3 (fun h => c2 h.2))
                  have HA1 := Lib.hid (show Arr K wr g u n by rw [HN]; exact HR.out)
                  have HB1 := Lib.hid HB.out
                  clear HN
                  go_wp2_with fail
                  go_end0
                  exact ⟨rfl, ⟨_, merged_both (by omega) (by omega) GI.out GX.out (Merged.refl_of (GL.out.one (by omega))) (Merged.refl_of ((GR.out.keep (fun k k1 k2 => ((Merged.refl_of (GL.out.one (by omega)))).img.2 k (by omega)) f6 f4).one (by omega))), HA1.out⟩, HB1.out⟩
              · by_cases c4 : e < b
                · have HN := HU.out.symm.trans (rot_none t f2 f3 (fun h => c2 h.2))
                  have HA1 := Lib.hid (show Arr K wr g u n by rw [HN]; exact HR.out)
                  have HB1 := Lib.hid HB.out
                  clear HN
                  go_wp2_with fail
                  refine (IH.out _ mid e b u _ (by omega) d1 c4 hbn (Img.bound ((Merged.refl_of (GL.out.one (by omega)))).img (by omega) HLR.out) (GR.out.keep (fun k k1 k2 => ((Merged.refl_of (GL.out.one (by omega)))).img.2 k (by omega)) f6 f4) HA1.out).mono ?_
                  rintro e' w3 ⟨rfl, ⟨u2, hmg2, ha3⟩, hb3⟩
                  have HM2 := Lib.hid hmg2
                  have HA3 := Lib.hid ha3
                  have HB3 := Lib.hid (HB1.out.trans hb3)
                  clear ha3 hb3 hmg2
                  go_wp2_with fail
                  go_end0
                  exact ⟨rfl, ⟨_, merged_both (by omega) (by omega) GI.out GX.out (Merged.refl_of (GL.out.one (by omega))) HM2.out, HA3.out⟩, HB3.out⟩
                · have HN := HU.out.symm.trans (rot_none t f2 f3 (fun h => c2 h.2))
                  have HA1 := Lib.hid (show Arr K wr g u n by rw [HN]; exact HR.out)
                  have HB1 := Lib.hid HB.out
                  clear HN
                  go_wp2_with fail
                  go_end0
                  exact ⟨rfl, ⟨_, merged_both (by omega) (by omega) GI.out GX.out (Merged.refl_of (GL.out.one (by omega))) (Merged.refl_of ((GR.out.keep (fun k k1 k2 => ((Merged.refl_of (GL.out.one (by omega)))).img.2 k (by omega)) f6 f4).one (by omega))), HA1.out⟩, HB1.out⟩
          · have d1 : ¬ mid < e := by omega
            by_cases c2 : m < e
            · have d2 : s < mid := by omega
              by_cases c3 : a < s
              · by_cases c4 : e < b
                · have HN := HU.out.symm.trans (rot_none t f2 f3 (fun h => c1 h.1))
                  have HA1 := Lib.hid (show Arr K wr g u n by rw [HN]; exact HR.out)
                  have HB1 := Lib.hid HB.out
                  clear HN
                  go_wp2_with fail
                  refine (IH.out _ a s mid u _ (by omega) c3 d2 (by omega) HLR.out GL.out HA1.out).mono ?_
                  rintro e' w2 ⟨rfl, ⟨u1, hmg, ha2⟩, hb2⟩
                  have HM1 := Lib.hid hmg
                  have HA2 := Lib.hid ha2
                  have HB2 := Lib.hid (HB1.out.trans hb2)
                  clear ha2 hb2 hmg
                  go_wp2_with fail
                  go_end0
                  exact ⟨rfl, ⟨_, merged_both (by omega) (by omega) GI.out GX.out HM1.out (Merged.refl_of ((GR.out.keep (fun k k1 k2 => (HM1.out).img.2 k (by omega)) f6 f4).one (by omega))), HA2.out⟩, HB2.out⟩
                · have HN := HU.out.symm.trans (rot_none t f2 f3 (fun h => c1 h.1))
                  have HA1 := Lib.hid (show Arr K wr g u n by rw [HN]; exact HR.out)
                  have HB1 := Lib.hid HB.out
                  clear HN
                  go_wp2_with fail
                  refine (IH.out _ a s mid u _ (by omega) c3 d2 (by omega) HLR.out GL.out HA1.out).mono ?_
                  rintro e' w2 ⟨rfl, ⟨u1, hmg, ha2⟩, hb2⟩
                  have HM1 := Lib.hid hmg
                  have HA2 := Lib.hid ha2
                  have HB2 := Lib.hid (HB1.out.trans hb2)
                  clear ha2 hb2 hmg
                  go_wp2_with fail
                  go_end0
                  exact ⟨rfl, ⟨_, merged_both (by omega) (by omega) GI.out GX.out HM1.out (Merged.refl_of ((GR.out.keep (fun k k1 k2 => (HM1.out).img.2 k (by omega)) f6 f4).one (by omega))), HA2.out⟩, HB2.out⟩
              · by_cases c4 : e < b
                · have HN := HU.out.symm.trans (rot_none t f2 f3 (fun h => c1 h.1))
                  have HA1 := Lib.hid (show Arr K wr g u n by rw [HN]; exact HR.out)
                  have HB1 := Lib.hid HB.out
                  clear HN
                  go_wp2_with fail
                  go_end0
                  exact ⟨rfl, ⟨_, merged_both (by omega) (by omega) GI.out GX.out (Merged.refl_of (GL.out.one (by omega))) (Merged.refl_of ((GR.out.keep (fun k k1 k2 => ((Merged.refl_of (GL.out.one (by omega)))).img.2 k (by omega)) f6 f4).one (by omega))), HA1.out⟩, HB1.out⟩
                · have HN := HU.out.symm.trans (rot_none t f2 f3 (fun h => c1 h.1))
                  have HA1 := Lib.hid (show Arr K wr g u n by rw [HN]; exact HR.out)
                  have HB1 := Lib.hid HB.out
                  clear HN
                  go_wp2_with fail
                  go_end0
                  exact ⟨rfl, ⟨_, merged_both (by omega) (by omega) GI.out GX.out (Merged.refl_of (GL.out.one (by omega))) (Merged.refl_of ((GR.out.keep (fun k k1 k2 => ((Merged.refl_of (GL.out.one (by omega)))).img.2 k (by omega)) f6 f4).one (by omega))), HA1.out⟩, HB1.out⟩
            · have d2 : ¬ s < mid := by omega
              by_cases c3 : a < s
              · by_cases c4 : e < b
                · have HN := HU.out.symm.trans (rot_none t f2 f3 (fun h => c1 h.1))
                  have HA1 := Lib.hid (show Arr K wr g u n by rw [HN]; exact HR.out)
                  have HB1 := Lib.hid HB.out
                  clear HN
                  go_wp2_with fail
                  go_end0
                  exact ⟨rfl, ⟨_, merged_both (by omega) (by omega) GI.out GX.out (Merged.refl_of (GL.out.one (by omega))) (Merged.refl_of ((GR.out.keep (fun k k1 k2 => ((Merged.refl_of (GL.out.one (by omega)))).img.2 k (by omega)) f6 f4).one (by omega))), HA1.out⟩, HB1.out⟩
                · have HN := HU.out.symm.trans (rot_none t f2 f3 (fun h => c1 h.1))
                  have HA1 := Lib.hid (show Arr K wr g u n by rw [HN]; exact HR.out)
                  have HB1 := Lib.hid HB.out
                  clear HN
                  go_wp2_with fail
                  go_end0
                  exact ⟨rfl, ⟨_, merged_both (by omega) (by omega) GI.out GX.out (Merged.refl_of (GL.out.one (by omega))) (Merged.refl_of ((GR.out.keep (fun k k1 k2 => ((Merged.refl_of (GL.out.one (by omega)))).img.2 k (by omega)) f6 f4).one (by omega))), HA1.out⟩, HB1.out⟩
              · by_cases c4 : e < b
                · have HN := HU.out.symm.trans (rot_none t f2 f3 (fun h => c1 h.1))
                  have HA1 := Lib.hid (show Arr K wr g u n by rw [HN]; exact HR.out)
                  have HB1 := Lib.hid HB.out
                  clear HN
                  go_wp2_with fail
                  go_end0
                  exact ⟨rfl, ⟨_, merged_both (by omega) (by omega) GI.out GX.out (Merged.refl_of (GL.out.one (by omega))) (Merged.refl_of ((GR.out.keep (fun k k1 k2 => ((Merged.refl_of (GL.out.one (by omega)))).img.2 k (by omega)) f6 f4).one (by omega))), HA1.out⟩, HB1.out⟩
                · have HN := HU.out.symm.trans (rot_none t f2 f3 (fun h => c1 h.1))
                  have HA1 := Lib.hid (show Arr K wr g u n by rw [HN]; exact HR.out)
                  have HB1 := Lib.hid HB.out
                  clear HN
                  go_wp2_with fail
                  go_end0
                  exact ⟨rfl, ⟨_, merged_both (by omega) (by omega) GI.out GX.out (Merged.refl_of (GL.out.one (by omega))) (Merged.refl_of ((GR.out.keep (fun k k1 k2 => ((Merged.refl_of (GL.out.one (by omega)))).img.2 k (by omega)) f6 f4).one (by omega))), HA1.out⟩, HB1.out⟩
    · have dd : decide (mid < m) = false := by simpa using hc
      have dd2 : decide ((mid : Int) < (m : Int)) = false := by simpa using hc
      go_enter Try.func54, Try.ntmps54
      go_wp2_with fail
      go_loopw [20, 21, 23] (fun u v _ wr => ∃ (s r : Nat), u = .int .i64 s ∧ v = .int .i64 r ∧ Search t n0 lo hi s r ∧ Arr K wr g t n ∧ But g w wr) (fun u v _ _ => (intOf v).toNat - (intOf u).toNat)
      case atStart => exact ⟨a, m, rfl, rfl, by have := HN0.out; have := HMID.out; have := HLO.out; exact ⟨by omega, by omega, by omega, fun h => by omega, fun h => by omega⟩, HA.out, But.refl _ _⟩
      case round =>
        obtain ⟨s, r, rfl, rfl, hs, harr, hbut⟩ := hrel
        have h1 := hs.l1
        have h2 := hs.l2
        have h3 := hs.l3
        have HSE := Lib.hid hs
        have HR := Lib.hid harr
        have HB := Lib.hid hbut
        have hmm := HMID.out
        have hnn := HN0.out
        clear hs harr hbut
        by_cases hij : s < r
        · obtain ⟨q, eq⟩ : ∃ q : Nat, ((s : Int) + (r : Int)) / 2 = (q : Int) := ⟨(s + r) / 2, by omega⟩
          have hq1 : s ≤ q := by omega
          have hq2 : q < r := by omega
          obtain ⟨z, hz⟩ : ∃ z : Nat, n0 - 1 - q = z := ⟨_, rfl⟩
          have f1 : a ≤ q ∧ q < m ∧ m ≤ z ∧ z < b ∧ z + q + 1 = n0 := by rcases HLO.out with ⟨c1, c2, c3⟩ | ⟨c1, c2, c3⟩ <;> omega
          obtain ⟨f1, f2, f3, f4, f5⟩ := f1
          have HZ := Lib.hid hz
          have epq : (p0 : Int) - (q : Int) = (z : Int) := by omega
          have epw : IntKind.i64.wrap ((p0 : Int) - (q : Int)) = (z : Int) := by rw [epq]; exact Go.IntWalk.i64_in _ (by omega)
          have epw2 : IntKind.i64.wrap (z : Int) = (z : Int) := Go.IntWalk.i64_in _ (by omega)
          clear hz
          have i1 : (q : Int) < (n : Int) := by omega
          have i2 : (z : Int) < (n : Int) := by omega
          have HIX := Lib.hid (HH.out.before q z f1 f2 f3 f4)
          clear hmm hnn
          have x1 := HR.out.at_ z (by omega)
          have x2 := HR.out.at_ q (by omega)
          have q1 := HT.out.yes (HL.out z (by omega)) (HL.out q (by omega)) HIX.out
          have q2 := HT.out.no (HL.out z (by omega)) (HL.out q (by omega)) HIX.out
          have HQ1 := Lib.hid q1
          have HQ2 := Lib.hid q2
          clear q1 q2
          obtain ⟨x, hx⟩ : ∃ zz, K (t z) = zz := ⟨_, rfl⟩
          obtain ⟨y, hy⟩ : ∃ zz, K (t q) = zz := ⟨_, rfl⟩
          rw [hx] at x1 HQ1 HQ2
          rw [hy] at x2 HQ1 HQ2
          have HP := Lib.hid hx
          have HQ := Lib.hid hy
          clear hx hy
          have hg := HR.out.lt
          obtain ⟨xf, xt, xx⟩ := x
          obtain ⟨yf, yt, yx⟩ := y
          obtain ⟨u1, u2, u3⟩ := x1
          obtain ⟨v1, v2, v3⟩ := x2
          dsimp only at u1 u2 u3 v1 v2 v3
          have HO := Lib.hid (order_any ⟨xf, xt, xx⟩ ⟨yf, yt, yx⟩ wr.drew)
          have HS := Lib.hid (splV_lt ⟨xf, xt, xx⟩ ⟨yf, yt, yx⟩)
          obtain ⟨v, hv⟩ : ∃ v, splV ⟨xf, xt, xx⟩ ⟨yf, yt, yx⟩ = v := ⟨_, rfl⟩
          rw [hv] at HO HS
          clear hv
          dsimp only at HO
          by_cases hlt0 : v < 0
          · have HK := Lib.hid (HQ1.out (HS.out.1 hlt0))
            go_wp2_with fail
            go_region_held3 (fun w' => w'.cell? ⟨g, z * 3, none⟩ = some (.int .i64 xf) ∧ w'.cell? ⟨g, z * 3 + 1, none⟩ = some (.int .i64 xt) ∧ w'.cell? ⟨g, z * 3 + 2, none⟩ = some (.string xx) ∧ w'.cell? ⟨g, q * 3, none⟩ = some (.int .i64 yf) ∧ w'.cell? ⟨g, q * 3 + 1, none⟩ = some (.int .i64 yt) ∧ w'.cell? ⟨g, q * 3 + 2, none⟩ = some (.string yx))
              (first | go_keep | exact ⟨(hb3.cell (p := ⟨g, z * 3, none⟩) hg).trans u1, (hb3.cell (p := ⟨g, z * 3 + 1, none⟩) hg).trans u2, (hb3.cell (p := ⟨g, z * 3 + 2, none⟩) hg).trans u3, (hb3.cell (p := ⟨g, q * 3, none⟩) hg).trans v1, (hb3.cell (p := ⟨g, q * 3 + 1, none⟩) hg).trans v2, (hb3.cell (p := ⟨g, q * 3 + 2, none⟩) hg).trans v3⟩)
              (first | (go_at_call 43; refine HO.out.mono ?_; rintro e w3 ⟨rfl, hb3⟩))
            have hbq : But g wr w3 := (But.refl g wr).drew.trans (But.of_below (g := g) (a := wr.drew) hb3)
            have hr3 := (show Arr K wr.drew g t n from HR.out).below hb3
            have HB3 := Lib.hid hbq
            have HR3 := Lib.hid hr3
            clear hb3 hbq hr3 u1 u2 u3 v1 v2 v3
            have hlt1 : v < (0 : Int) := hlt0
            have hlt2 : decide (v < (0 : Int)) = true := by simpa using hlt0
            go_wp2_with fail
            go_roundw
            case rel => exact ⟨s, q, rfl, rfl, ⟨h1, hq1, by omega, HSE.out.low, fun _ => by rw [HZ.out]; exact HK.out⟩, HR3.out, HB.out.trans HB3.out⟩
            case measure => simp [intOf]; omega
          · have hav : aheadV ⟨xf, xt, xx⟩ ⟨yf, yt, yx⟩ = false := by
              cases hc : aheadV ⟨xf, xt, xx⟩ ⟨yf, yt, yx⟩
              · rfl
              · exact absurd (HS.out.2 hc) hlt0
            have HK := Lib.hid (HQ2.out hav)
            clear hav
            have hge : ¬ v < (0 : Int) := by omega
            have hge2 : (0 : Int) ≤ v := by omega
            have hge3 : decide (v < (0 : Int)) = false := by simpa using hge
            go_wp2_with fail
            go_region_held3 (fun w' => w'.cell? ⟨g, z * 3, none⟩ = some (.int .i64 xf) ∧ w'.cell? ⟨g, z * 3 + 1, none⟩ = some (.int .i64 xt) ∧ w'.cell? ⟨g, z * 3 + 2, none⟩ = some (.string xx) ∧ w'.cell? ⟨g, q * 3, none⟩ = some (.int .i64 yf) ∧ w'.cell? ⟨g, q * 3 + 1, none⟩ = some (.int .i64 yt) ∧ w'.cell? ⟨g, q * 3 + 2, none⟩ = some (.string yx))
              (first | go_keep | exact ⟨(hb3.cell (p := ⟨g, z * 3, none⟩) hg).trans u1, (hb3.cell (p := ⟨g, z * 3 + 1, none⟩) hg).trans u2, (hb3.cell (p := ⟨g, z * 3 + 2, none⟩) hg).trans u3, (hb3.cell (p := ⟨g, q * 3, none⟩) hg).trans v1, (hb3.cell (p := ⟨g, q * 3 + 1, none⟩) hg).trans v2, (hb3.cell (p := ⟨g, q * 3 + 2, none⟩) hg).trans v3⟩)
              (first | (go_at_call 43; refine HO.out.mono ?_; rintro e w3 ⟨rfl, hb3⟩))
            have hbq : But g wr w3 := (But.refl g wr).drew.trans (But.of_below (g := g) (a := wr.drew) hb3)
            have hr3 := (show Arr K wr.drew g t n from HR.out).below hb3
            have HB3 := Lib.hid hbq
            have HR3 := Lib.hid hr3
            clear hb3 hbq hr3 u1 u2 u3 v1 v2 v3
            go_wp2_with fail
            go_roundw
            case rel => exact ⟨q + 1, r, by go_num, rfl, ⟨by omega, by omega, h3, fun _ => by have := HK.out; rwa [show n0 - (q + 1) = z by omega], HSE.out.high⟩, HR3.out, HB.out.trans HB3.out⟩
            case measure => simp [intOf]; omega
        · obtain rfl : s = r := by omega
          obtain ⟨f1, f2, f3, f4, f5, f6, HL1, HR1, HI1, HX1⟩ := rot_halves HH.out ham hmb hmm hnn HLO.out HSE.out
          obtain ⟨e, he⟩ : ∃ e, n0 - s = e := ⟨_, rfl⟩
          rw [he] at f3 f4 f6 HL1 HR1 HI1 HX1
          have ee : (n0 : Int) - (s : Int) = (e : Int) := by omega
          have g1 : (e = mid) = (s = m) := by simp; omega
          have hre : e + s = mid + m := by omega
          have GL := Lib.hid HL1
          have GR := Lib.hid HR1
          have GI := Lib.hid HI1
          have GX := Lib.hid HX1
          clear HL1 HR1 HI1 HX1 hmm hnn he g1
          have HLR := Lib.hid (GI.out.bound hbn HL.out)
          obtain ⟨u, hu⟩ : ∃ u, rot t s m e = u := ⟨_, rfl⟩
          have HU := Lib.hid hu
          rw [hu] at GL GR GI GX HLR
          clear hu
          by_cases c1 : s < m
          · have d1 : mid < e := by omega
            by_cases c2 : m < e
            · have d2 : s < mid := by omega
              by_cases c3 : a < s
              · by_cases c4 : e < b
                · go_wp2_with fail
                  refine (rotate_any (K := K) _ _ s m e hn c1 c2 (by omega) HR.out).mono ?_
                  rintro e' w1 ⟨rfl, ha1, hb1⟩
                  rw [HU.out] at ha1
                  have HA1 := Lib.hid ha1
                  have HB1 := Lib.hid (HB.out.trans hb1)
                  clear ha1 hb1
                  go_wp2_with fail
                  refine (IH.out _ a s mid u _ (by omega) c3 d2 (by omega) HLR.out GL.out HA1.out).mono ?_
                  rintro e' w2 ⟨rfl, ⟨u1, hmg, ha2⟩, hb2⟩
                  have HM1 := Lib.hid hmg
                  have HA2 := Lib.hid ha2
                  have HB2 := Lib.hid (HB1.out.trans hb2)
                  clear ha2 hb2 hmg
                  go_wp2_with fail
                  refine (IH.out _ mid e b u1 _ (by omega) d1 c4 hbn (Img.bound (HM1.out).img (by omega) HLR.out) (GR.out.keep (fun k k1 k2 => (HM1.out).img.2 k (by omega)) f6 f4) HA2.out).mono ?_
                  rintro e' w3 ⟨rfl, ⟨u2, hmg2, ha3⟩, hb3⟩
                  have HM2 := Lib.hid hmg2
                  have HA3 := Lib.hid ha3
                  have HB3 := Lib.hid (HB2.out.trans hb3)
                  clear ha3 hb3 hmg2
                  go_wp2_with fail
                  go_end0
                  exact ⟨rfl, ⟨_, merged_both (by omega) (by omega) GI.out GX.out HM1.out HM2.out, HA3.out⟩, HB3.out⟩
                · go_wp2_with fail
                  refine (rotate_any (K := K) _ _ s m e hn c1 c2 (by omega) HR.out).mono ?_
                  rintro e' w1 ⟨rfl, ha1, hb1⟩
                  rw [HU.out] at ha1
                  have HA1 := Lib.hid ha1
                  have HB1 := Lib.hid (HB.out.trans hb1)
                  clear ha1 hb1
                  go_wp2_with fail
                  refine (IH.out _ a s mid u _ (by omega) c3 d2 (by omega) HLR.out GL.out HA1.out).mono ?_
                  rintro e' w2 ⟨rfl, ⟨u1, hmg, ha2⟩, hb2⟩
                  have HM1 := Lib.hid hmg
                  have HA2 := Lib.hid ha2
                  have HB2 := Lib.hid (HB1.out.trans hb2)
                  clear ha2 hb2 hmg
                  go_wp2_with fail
                  go_end0
                  exact ⟨rfl, ⟨_, merged_both (by omega) (by omega) GI.out GX.out HM1.out (Merged.refl_of ((GR.out.keep (fun k k1 k2 => (HM1.out).img.2 k (by omega)) f6 f4).one (by omega))), HA2.out⟩, HB2.out⟩
              · by_cases c4 : e < b
                · go_wp2_with fail
                  refine (rotate_any (K := K) _ _ s m e hn c1 c2 (by omega) HR.out).mono ?_
                  rintro e' w1 ⟨rfl, ha1, hb1⟩
                  rw [HU.out] at ha1
                  have HA1 := Lib.hid ha1
                  have HB1 := Lib.hid (HB.out.trans hb1)
                  clear ha1 hb1
                  go_wp2_with fail
                  refine (IH.out _ mid e b u _ (by omega) d1 c4 hbn (Img.bound ((Merged.refl_of (GL.out.one (by omega)))).img (by omega) HLR.out) (GR.out.keep (fun k k1 k2 => ((Merged.refl_of (GL.out.one (by omega)))).img.2 k (by omega)) f6 f4) HA1.out).mono ?_
                  rintro e' w3 ⟨rfl, ⟨u2, hmg2, ha3⟩, hb3⟩
                  have HM2 := Lib.hid hmg2
                  have HA3 := Lib.hid ha3
                  have HB3 := Lib.hid (HB1.out.trans hb3)
                  clear ha3 hb3 hmg2
                  go_wp2_with fail
                  go_end0
                  exact ⟨rfl, ⟨_, merged_both (by omega) (by omega) GI.out GX.out (Merged.refl_of (GL.out.one (by omega))) HM2.out, HA3.out⟩, HB3.out⟩
                · go_wp2_with fail
                  refine (rotate_any (K := K) _ _ s m e hn c1 c2 (by omega) HR.out).mono ?_
                  rintro e' w1 ⟨rfl, ha1, hb1⟩
                  rw [HU.out] at ha1
                  have HA1 := Lib.hid ha1
                  have HB1 := Lib.hid (HB.out.trans hb1)
                  clear ha1 hb1
                  go_wp2_with fail
                  go_end0
                  exact ⟨rfl, ⟨_, merged_both (by omega) (by omega) GI.out GX.out (Merged.refl_of (GL.out.one (by omega))) (Merged.refl_of ((GR.out.keep (fun k k1 k2 => ((Merged.refl_of (GL.out.one (by omega)))).img.2 k (by omega)) f6 f4).one (by omega))), HA1.out⟩, HB1.out⟩
            · have d2 : ¬ s < mid := by omega
              by_cases c3 : a < s
              · by_cases c4 : e < b
                · have HN := HU.out.symm.trans (rot_none t f2 f3 (fun h => c2 h.2))
                  have HA1 := Lib.hid (show Arr K wr g u n by rw [HN]; exact HR.out)
                  have HB1 := Lib.hid HB.out
                  clear HN
                  go_wp2_with fail
                  refine (IH.out _ mid e b u _ (by omega) d1 c4 hbn (Img.bound ((Merged.refl_of (GL.out.one (by omega)))).img (by omega) HLR.out) (GR.out.keep (fun k k1 k2 => ((Merged.refl_of (GL.out.one (by omega)))).img.2 k (by omega)) f6 f4) HA1.out).mono ?_
                  rintro e' w3 ⟨rfl, ⟨u2, hmg2, ha3⟩, hb3⟩
                  have HM2 := Lib.hid hmg2
                  have HA3 := Lib.hid ha3
                  have HB3 := Lib.hid (HB1.out.trans hb3)
                  clear ha3 hb3 hmg2
                  go_wp2_with fail
                  go_end0
                  exact ⟨rfl, ⟨_, merged_both (by omega) (by omega) GI.out GX.out (Merged.refl_of (GL.out.one (by omega))) HM2.out, HA3.out⟩, HB3.out⟩
                · have HN := HU.out.symm.trans (rot_none t f2 f3 (fun h => c2 h.2))
                  have HA1 := Lib.hid (show Arr K wr g u n by rw [HN]; exact HR.out)
                  have HB1 := Lib.hid HB.out
                  clear HN
                  go_wp2_with fail
                  go_end0
                  exact ⟨rfl, ⟨_, merged_both (by omega) (by omega) GI.out GX.out (Merged.refl_of (GL.out.one (by omega))) (Merged.refl_of ((GR.out.keep (fun k k1 k2 => ((Merged.refl_of (GL.out.one (by omega)))).img.2 k (by omega)) f6 f4).one (by omega))), HA1.out⟩, HB1.out⟩
              · by_cases c4 : e < b
                · have HN := HU.out.symm.trans (rot_none t f2 f3 (fun h => c2 h.2))
                  have HA1 := Lib.hid (show Arr K wr g u n by rw [HN]; exact HR.out)
                  have HB1 := Lib.hid HB.out
                  clear HN
                  go_wp2_with fail
                  refine (IH.out _ mid e b u _ (by omega) d1 c4 hbn (Img.bound ((Merged.refl_of (GL.out.one (by omega)))).img (by omega) HLR.out) (GR.out.keep (fun k k1 k2 => ((Merged.refl_of (GL.out.one (by omega)))).img.2 k (by omega)) f6 f4) HA1.out).mono ?_
                  rintro e' w3 ⟨rfl, ⟨u2, hmg2, ha3⟩, hb3⟩
                  have HM2 := Lib.hid hmg2
                  have HA3 := Lib.hid ha3
                  have HB3 := Lib.hid (HB1.out.trans hb3)
                  clear ha3 hb3 hmg2
                  go_wp2_with fail
                  go_end0
                  exact ⟨rfl, ⟨_, merged_both (by omega) (by omega) GI.out GX.out (Merged.refl_of (GL.out.one (by omega))) HM2.out, HA3.out⟩, HB3.out⟩
                · have HN := HU.out.symm.trans (rot_none t f2 f3 (fun h => c2 h.2))
                  have HA1 := Lib.hid (show Arr K wr g u n by rw [HN]; exact HR.out)
                  have HB1 := Lib.hid HB.out
                  clear HN
                  go_wp2_with fail
                  go_end0
                  exact ⟨rfl, ⟨_, merged_both (by omega) (by omega) GI.out GX.out (Merged.refl_of (GL.out.one (by omega))) (Merged.refl_of ((GR.out.keep (fun k k1 k2 => ((Merged.refl_of (GL.out.one (by omega)))).img.2 k (by omega)) f6 f4).one (by omega))), HA1.out⟩, HB1.out⟩
          · have d1 : ¬ mid < e := by omega
            by_cases c2 : m < e
            · have d2 : s < mid := by omega
              by_cases c3 : a < s
              · by_cases c4 : e < b
                · have HN := HU.out.symm.trans (rot_none t f2 f3 (fun h => c1 h.1))
                  have HA1 := Lib.hid (show Arr K wr g u n by rw [HN]; exact HR.out)
                  have HB1 := Lib.hid HB.out
                  clear HN
                  go_wp2_with fail
                  refine (IH.out _ a s mid u _ (by omega) c3 d2 (by omega) HLR.out GL.out HA1.out).mono ?_
                  rintro e' w2 ⟨rfl, ⟨u1, hmg, ha2⟩, hb2⟩
                  have HM1 := Lib.hid hmg
                  have HA2 := Lib.hid ha2
                  have HB2 := Lib.hid (HB1.out.trans hb2)
                  clear ha2 hb2 hmg
                  go_wp2_with fail
                  go_end0
                  exact ⟨rfl, ⟨_, merged_both (by omega) (by omega) GI.out GX.out HM1.out (Merged.refl_of ((GR.out.keep (fun k k1 k2 => (HM1.out).img.2 k (by omega)) f6 f4).one (by omega))), HA2.out⟩, HB2.out⟩
                · have HN := HU.out.symm.trans (rot_none t f2 f3 (fun h => c1 h.1))
                  have HA1 := Lib.hid (show Arr K wr g u n by rw [HN]; exact HR.out)
                  have HB1 := Lib.hid HB.out
                  clear HN
                  go_wp2_with fail
                  refine (IH.out _ a s mid u _ (by omega) c3 d2 (by omega) HLR.out GL.out HA1.out).mono ?_
                  rintro e' w2 ⟨rfl, ⟨u1, hmg, ha2⟩, hb2⟩
                  have HM1 := Lib.hid hmg
                  have HA2 := Lib.hid ha2
                  have HB2 := Lib.hid (HB1.out.trans hb2)
                  clear ha2 hb2 hmg
                  go_wp2_with fail
                  go_end0
                  exact ⟨rfl, ⟨_, merged_both (by omega) (by omega) GI.out GX.out HM1.out (Merged.refl_of ((GR.out.keep (fun k k1 k2 => (HM1.out).img.2 k (by omega)) f6 f4).one (by omega))), HA2.out⟩, HB2.out⟩
              · by_cases c4 : e < b
                · have HN := HU.out.symm.trans (rot_none t f2 f3 (fun h => c1 h.1))
                  have HA1 := Lib.hid (show Arr K wr g u n by rw [HN]; exact HR.out)
                  have HB1 := Lib.hid HB.out
                  clear HN
                  go_wp2_with fail
                  go_end0
                  exact ⟨rfl, ⟨_, merged_both (by omega) (by omega) GI.out GX.out (Merged.refl_of (GL.out.one (by omega))) (Merged.refl_of ((GR.out.keep (fun k k1 k2 => ((Merged.refl_of (GL.out.one (by omega)))).img.2 k (by omega)) f6 f4).one (by omega))), HA1.out⟩, HB1.out⟩
                · have HN := HU.out.symm.trans (rot_none t f2 f3 (fun h => c1 h.1))
                  have HA1 := Lib.hid (show Arr K wr g u n by rw [HN]; exact HR.out)
                  have HB1 := Lib.hid HB.out
                  clear HN
                  go_wp2_with fail
                  go_end0
                  exact ⟨rfl, ⟨_, merged_both (by omega) (by omega) GI.out GX.out (Merged.refl_of (GL.out.one (by omega))) (Merged.refl_of ((GR.out.keep (fun k k1 k2 => ((Merged.refl_of (GL.out.one (by omega)))).img.2 k (by omega)) f6 f4).one (by omega))), HA1.out⟩, HB1.out⟩
            · have d2 : ¬ s < mid := by omega
              by_cases c3 : a < s
              · by_cases c4 : e < b
                · have HN := HU.out.symm.trans (rot_none t f2 f3 (fun h => c1 h.1))
                  have HA1 := Lib.hid (show Arr K wr g u n by rw [HN]; exact HR.out)
                  have HB1 := Lib.hid HB.out
                  clear HN
                  go_wp2_with fail
                  go_end0
                  exact ⟨rfl, ⟨_, merged_both (by omega) (by omega) GI.out GX.out (Merged.refl_of (GL.out.one (by omega))) (Merged.refl_of ((GR.out.keep (fun k k1 k2 => ((Merged.refl_of (GL.out.one (by omega)))).img.2 k (by omega)) f6 f4).one (by omega))), HA1.out⟩, HB1.out⟩
                · have HN := HU.out.symm.trans (rot_none t f2 f3 (fun h => c1 h.1))
                  have HA1 := Lib.hid (show Arr K wr g u n by rw [HN]; exact HR.out)
                  have HB1 := Lib.hid HB.out
                  clear HN
                  go_wp2_with fail
                  go_end0
                  exact ⟨rfl, ⟨_, merged_both (by omega) (by omega) GI.out GX.out (Merged.refl_of (GL.out.one (by omega))) (Merged.refl_of ((GR.out.keep (fun k k1 k2 => ((Merged.refl_of (GL.out.one (by omega)))).img.2 k (by omega)) f6 f4).one (by omega))), HA1.out⟩, HB1.out⟩
              · by_cases c4 : e < b
                · have HN := HU.out.symm.trans (rot_none t f2 f3 (fun h => c1 h.1))
                  have HA1 := Lib.hid (show Arr K wr g u n by rw [HN]; exact HR.out)
                  have HB1 := Lib.hid HB.out
                  clear HN
                  go_wp2_with fail
                  go_end0
                  exact ⟨rfl, ⟨_, merged_both (by omega) (by omega) GI.out GX.out (Merged.refl_of (GL.out.one (by omega))) (Merged.refl_of ((GR.out.keep (fun k k1 k2 => ((Merged.refl_of (GL.out.one (by omega)))).img.2 k (by omega)) f6 f4).one (by omega))), HA1.out⟩, HB1.out⟩
                · have HN := HU.out.symm.trans (rot_none t f2 f3 (fun h => c1 h.1))
                  have HA1 := Lib.hid (show Arr K wr g u n by rw [HN]; exact HR.out)
                  have HB1 := Lib.hid HB.out
                  clear HN
                  go_wp2_with fail
                  go_end0
                  exact ⟨rfl, ⟨_, merged_both (by omega) (by omega) GI.out GX.out (Merged.refl_of (GL.out.one (by omega))) (Merged.refl_of ((GR.out.keep (fun k k1 k2 => ((Merged.refl_of (GL.out.one (by omega)))).img.2 k (by omega)) f6 f4).one (by omega))), HA1.out⟩, HB1.out⟩
end Go.Proofs.Ytfflfbnnohlipaa
