/- slices.symMergeCmpFunc at splices, by Sort's order. -/
import Derived.Test.YtfflfbnnohlipaaInsSort
namespace Go.Proofs.Ytfflfbnnohlipaa
open Go.RowKit
set_option linter.unusedVariables false
set_option linter.unusedSimpArgs false
variable {K : Nat → Spl} {w w' : World} {g n : Nat} {t : Nat → Nat}

set_option maxRecDepth 1000000 in
set_option maxHeartbeats 3200000 in
theorem sym_left (c a m b N : Nat) (ix : Nat → Nat) (hT : Tells K ix N) (hn : n ≤ 1000) (hm : m = a + 1) (hmb : m < b) (hbn : b ≤ n) (hlt : ∀ k, k < n → t k < N) (hh : Halves ix t a m b) (h : Arr K w g t n) :
    Calls Try.prog 54 #[.slice (some ⟨g, 0, none⟩) n c, .int .i64 a, .int .i64 m, .int .i64 b, .func (.func 43) #[] #[]] w fun e w' => e = .returned (.tuple #[]) ∧ Ordered K g n t a b w' ∧ But g w w' := by
  have HA := Lib.hid h
  have HH := Lib.hid hh
  have HT := Lib.hid hT
  have HL := Lib.hid hlt
  have HM := Lib.hid hm
  have e1 : (m : Int) - (a : Int) = 1 := by omega
  have ham : a < m := by omega
  clear h hh hT hlt hm
  go_enter Try.func54, Try.ntmps54
  go_wp2_with fail
  go_loopw [10, 11, 12] (fun u v _ wr => ∃ (i j : Nat), u = .int .i64 i ∧ v = .int .i64 j ∧ m ≤ i ∧ i ≤ j ∧ j ≤ b ∧ (∀ k, m ≤ k → k < i → t k < t a) ∧ (∀ k, j ≤ k → k < b → t a < t k) ∧ Arr K wr g t n ∧ But g w wr) (fun u v _ _ => (intOf v).toNat - (intOf u).toNat)
  case atStart => exact ⟨m, b, rfl, rfl, Nat.le_refl _, by omega, Nat.le_refl _, fun k h1 h2 => by omega, fun k h1 h2 => by omega, HA.out, But.refl _ _⟩
  case round =>
    obtain ⟨i, j, rfl, rfl, h1, h2, h3, hl, hr, harr, hbut⟩ := hrel
    have HLo := Lib.hid hl
    have HHi := Lib.hid hr
    have HR := Lib.hid harr
    have HB := Lib.hid hbut
    clear hl hr harr hbut
    by_cases hij : i < j
    · obtain ⟨q, eq⟩ : ∃ q : Nat, ((i : Int) + (j : Int)) / 2 = (q : Int) := ⟨(i + j) / 2, by omega⟩
      have hq1 : i ≤ q := by omega
      have hq2 : q < j := by omega
      have i1 : (q : Int) < (n : Int) := by omega
      have i2 : (a : Int) < (n : Int) := by omega
      have HIX := Lib.hid (HH.out.before a q (by omega) (by omega) (by omega) (by omega))
      have x1 := HR.out.at_ q (by omega)
      have x2 := HR.out.at_ a (by omega)
      have q1 := HT.out.yes (HL.out q (by omega)) (HL.out a (by omega)) HIX.out
      have q2 := HT.out.no (HL.out q (by omega)) (HL.out a (by omega)) HIX.out
      have HQ1 := Lib.hid q1
      have HQ2 := Lib.hid q2
      clear q1 q2
      obtain ⟨x, hx⟩ : ∃ z, K (t q) = z := ⟨_, rfl⟩
      obtain ⟨y, hy⟩ : ∃ z, K (t a) = z := ⟨_, rfl⟩
      rw [hx] at x1 HQ1 HQ2
      rw [hy] at x2 HQ1 HQ2
      have HP := Lib.hid hx
      have HQ := Lib.hid hy
      clear hx hy
      have hg := HR.out.lt
      obtain ⟨xf, xt, xx⟩ := x
      obtain ⟨yf, yt, yx⟩ := y
      obtain ⟨u1, u2, u3⟩ := x1
      obtain ⟨v1, v2, v3⟩ := x2
      dsimp only at u1 u2 u3 v1 v2 v3
      have HO := Lib.hid (order_any ⟨xf, xt, xx⟩ ⟨yf, yt, yx⟩ wr.drew)
      have HS := Lib.hid (splV_lt ⟨xf, xt, xx⟩ ⟨yf, yt, yx⟩)
      obtain ⟨v, hv⟩ : ∃ v, splV ⟨xf, xt, xx⟩ ⟨yf, yt, yx⟩ = v := ⟨_, rfl⟩
      rw [hv] at HO HS
      clear hv
      dsimp only at HO
      by_cases hlt0 : v < 0
      · have HK := Lib.hid (HQ1.out (HS.out.1 hlt0))
        go_wp2_with fail
        go_region_held3 (fun w' => w'.cell? ⟨g, q * 3, none⟩ = some (.int .i64 xf) ∧ w'.cell? ⟨g, q * 3 + 1, none⟩ = some (.int .i64 xt) ∧ w'.cell? ⟨g, q * 3 + 2, none⟩ = some (.string xx) ∧ w'.cell? ⟨g, a * 3, none⟩ = some (.int .i64 yf) ∧ w'.cell? ⟨g, a * 3 + 1, none⟩ = some (.int .i64 yt) ∧ w'.cell? ⟨g, a * 3 + 2, none⟩ = some (.string yx))
          (first | go_keep | exact ⟨(hb3.cell (p := ⟨g, q * 3, none⟩) hg).trans u1, (hb3.cell (p := ⟨g, q * 3 + 1, none⟩) hg).trans u2, (hb3.cell (p := ⟨g, q * 3 + 2, none⟩) hg).trans u3, (hb3.cell (p := ⟨g, a * 3, none⟩) hg).trans v1, (hb3.cell (p := ⟨g, a * 3 + 1, none⟩) hg).trans v2, (hb3.cell (p := ⟨g, a * 3 + 2, none⟩) hg).trans v3⟩)
          (first | (go_at_call 43; refine HO.out.mono ?_; rintro e w3 ⟨rfl, hb3⟩))
        have hbq : But g wr w3 := (But.refl g wr).drew.trans (But.of_below (g := g) (a := wr.drew) hb3)
        have hr3 := (show Arr K wr.drew g t n from HR.out).below hb3
        have HB3 := Lib.hid hbq
        have HR3 := Lib.hid hr3
        clear hb3 hbq hr3 u1 u2 u3 v1 v2 v3
        have hlt1 : v < (0 : Int) := hlt0
        have hlt2 : decide (v < (0 : Int)) = true := by simpa using hlt0
        go_wp2_with fail
        go_roundw
        case rel =>
          refine ⟨q + 1, j, by go_num, rfl, by omega, by omega, h3, fun k k1 k2 => ?_, HHi.out, HR3.out, HB.out.trans HB3.out⟩
          by_cases e : k = q
          · rw [e]; exact HK.out
          · exact Nat.lt_trans (HH.out.right k q k1 (by omega) (by omega)) HK.out
        case measure => simp [intOf]; omega
      · have hav : aheadV ⟨xf, xt, xx⟩ ⟨yf, yt, yx⟩ = false := by
          cases hc : aheadV ⟨xf, xt, xx⟩ ⟨yf, yt, yx⟩
          · rfl
          · exact absurd (HS.out.2 hc) hlt0
        have HK := Lib.hid (HQ2.out hav)
        clear hav
        have hge : ¬ v < (0 : Int) := by omega
        have hge2 : (0 : Int) ≤ v := by omega
        have hge3 : decide (v < (0 : Int)) = false := by simpa using hge
        go_wp2_with fail
        go_region_held3 (fun w' => w'.cell? ⟨g, q * 3, none⟩ = some (.int .i64 xf) ∧ w'.cell? ⟨g, q * 3 + 1, none⟩ = some (.int .i64 xt) ∧ w'.cell? ⟨g, q * 3 + 2, none⟩ = some (.string xx) ∧ w'.cell? ⟨g, a * 3, none⟩ = some (.int .i64 yf) ∧ w'.cell? ⟨g, a * 3 + 1, none⟩ = some (.int .i64 yt) ∧ w'.cell? ⟨g, a * 3 + 2, none⟩ = some (.string yx))
          (first | go_keep | exact ⟨(hb3.cell (p := ⟨g, q * 3, none⟩) hg).trans u1, (hb3.cell (p := ⟨g, q * 3 + 1, none⟩) hg).trans u2, (hb3.cell (p := ⟨g, q * 3 + 2, none⟩) hg).trans u3, (hb3.cell (p := ⟨g, a * 3, none⟩) hg).trans v1, (hb3.cell (p := ⟨g, a * 3 + 1, none⟩) hg).trans v2, (hb3.cell (p := ⟨g, a * 3 + 2, none⟩) hg).trans v3⟩)
          (first | (go_at_call 43; refine HO.out.mono ?_; rintro e w3 ⟨rfl, hb3⟩))
        have hbq : But g wr w3 := (But.refl g wr).drew.trans (But.of_below (g := g) (a := wr.drew) hb3)
        have hr3 := (show Arr K wr.drew g t n from HR.out).below hb3
        have HB3 := Lib.hid hbq
        have HR3 := Lib.hid hr3
        clear hb3 hbq hr3 u1 u2 u3 v1 v2 v3
        go_wp2_with fail
        go_roundw
        case rel =>
          refine ⟨i, q, rfl, rfl, h1, by omega, by omega, HLo.out, fun k k1 k2 => ?_, HR3.out, HB.out.trans HB3.out⟩
          by_cases e : k = q
          · rw [e]; exact HK.out
          · exact Nat.lt_trans HK.out (HH.out.right q k (by omega) (by omega) k2)
        case measure => simp [intOf]; omega
    · obtain rfl : i = j := by omega
      obtain ⟨wo, rfl⟩ : ∃ wo : World, wo = wr := ⟨_, rfl⟩
      have HF := Lib.hid (shl_merged HH.out HM.out h1 h3 HLo.out HHi.out)
      have e3 : (i : Int) - 1 = ((i - 1 : Nat) : Int) := by omega
      go_wp2_with fail
      go_loopw [13] (fun u wx => ∃ k : Nat, u = .int .i64 k ∧ a ≤ k ∧ k ≤ i - 1 ∧ Arr K wx g (shl t a k) n ∧ But g wo wx) (fun u _ => i - (intOf u).toNat)
      case atStart => exact ⟨a, rfl, Nat.le_refl _, by omega, by rw [shl_start]; exact HR.out, But.refl _ _⟩
      case round =>
        obtain ⟨k, rfl, k1, k2, harr, hbut⟩ := hrel
        have HR2 := Lib.hid harr
        have HB2 := Lib.hid hbut
        clear harr hbut
        by_cases hlt : k < i - 1
        · have i1 : (k : Int) < (n : Int) := by omega
          have i2 : (k : Int) + 1 < (n : Int) := by omega
          have x1 := HR2.out.at_ k (by omega)
          have x2 := HR2.out.at_ (k + 1) (by omega)
          have fz := HR2.out.free
          obtain ⟨x, hx⟩ : ∃ z, K (shl t a k k) = z := ⟨_, rfl⟩
          obtain ⟨y, hy⟩ : ∃ z, K (shl t a k (k + 1)) = z := ⟨_, rfl⟩
          rw [hx] at x1
          rw [hy] at x2
          have HP := Lib.hid hx
          have HQ := Lib.hid hy
          clear hx hy
          obtain ⟨xf, xt, xx⟩ := x
          obtain ⟨yf, yt, yx⟩ := y
          obtain ⟨u1, u2, u3⟩ := x1
          obtain ⟨v1, v2, v3⟩ := x2
          dsimp only at u1 u2 u3 v1 v2 v3
          go_wp2_with fail
          go_region
          go_wp2_with fail
          go_roundw
          case rel =>
            refine ⟨k + 1, by go_num, by omega, by omega, ?_, HB2.out.trans ((((((((But.refl g wr).setCell _ _).setCell _ _).setCell _ _).setCell _ _).setCell _ _).setCell _ _).drew)⟩
            have hs := Arr.swap HR2.out k (k + 1) (by omega) (by omega) (by omega)
            rw [HP.out, HQ.out, shl_next t k1] at hs
            dsimp only at hs
            exact hs.drew
          case measure => simp [intOf]; omega
        · obtain rfl : k = i - 1 := by omega
          go_wp2_with fail
          exact bodyPost_ret (results_none rfl _ _ _) rfl ⟨rfl, ⟨_, HF.out, HR2.out⟩, HB.out.trans HB2.out⟩

set_option maxRecDepth 1000000 in
set_option maxHeartbeats 3200000 in
theorem sym_right (c a m b N : Nat) (ix : Nat → Nat) (hT : Tells K ix N) (hn : n ≤ 1000) (hma : m ≠ a + 1) (hm : b = m + 1) (ham : a < m) (hbn : b ≤ n) (hlt : ∀ k, k < n → t k < N) (hh : Halves ix t a m b) (h : Arr K w g t n) :
    Calls Try.prog 54 #[.slice (some ⟨g, 0, none⟩) n c, .int .i64 a, .int .i64 m, .int .i64 b, .func (.func 43) #[] #[]] w fun e w' => e = .returned (.tuple #[]) ∧ Ordered K g n t a b w' ∧ But g w w' := by
  have HA := Lib.hid h
  have HH := Lib.hid hh
  have HT := Lib.hid hT
  have HL := Lib.hid hlt
  have HM := Lib.hid hm
  have e0 : ((m : Int) - (a : Int) == 1) = false := by simp; omega
  have e1 : (b : Int) - (m : Int) = 1 := by omega
  have hmb : m < b := by omega
  clear h hh hT hlt hm hma
  go_enter Try.func54, Try.ntmps54
  go_wp2_with fail
  go_loopw [14, 15, 16] (fun u v _ wr => ∃ (i j : Nat), u = .int .i64 i ∧ v = .int .i64 j ∧ a ≤ i ∧ i ≤ j ∧ j ≤ m ∧ (∀ k, a ≤ k → k < i → t k < t m) ∧ (∀ k, j ≤ k → k < m → t m < t k) ∧ Arr K wr g t n ∧ But g w wr) (fun u v _ _ => (intOf v).toNat - (intOf u).toNat)
  case atStart => exact ⟨a, m, rfl, rfl, Nat.le_refl _, by omega, Nat.le_refl _, fun k h1 h2 => by omega, fun k h1 h2 => by omega, HA.out, But.refl _ _⟩
  case round =>
    obtain ⟨i, j, rfl, rfl, h1, h2, h3, hl, hr, harr, hbut⟩ := hrel
    have HLo := Lib.hid hl
    have HHi := Lib.hid hr
    have HR := Lib.hid harr
    have HB := Lib.hid hbut
    clear hl hr harr hbut
    by_cases hij : i < j
    · obtain ⟨q, eq⟩ : ∃ q : Nat, ((i : Int) + (j : Int)) / 2 = (q : Int) := ⟨(i + j) / 2, by omega⟩
      have hq1 : i ≤ q := by omega
      have hq2 : q < j := by omega
      have i1 : (q : Int) < (n : Int) := by omega
      have i2 : (m : Int) < (n : Int) := by omega
      have HIX := Lib.hid (HH.out.before q m (by omega) (by omega) (by omega) (by omega))
      have x1 := HR.out.at_ m (by omega)
      have x2 := HR.out.at_ q (by omega)
      have q1 := HT.out.yes (HL.out m (by omega)) (HL.out q (by omega)) HIX.out
      have q2 := HT.out.no (HL.out m (by omega)) (HL.out q (by omega)) HIX.out
      have HQ1 := Lib.hid q1
      have HQ2 := Lib.hid q2
      clear q1 q2
      obtain ⟨x, hx⟩ : ∃ z, K (t m) = z := ⟨_, rfl⟩
      obtain ⟨y, hy⟩ : ∃ z, K (t q) = z := ⟨_, rfl⟩
      rw [hx] at x1 HQ1 HQ2
      rw [hy] at x2 HQ1 HQ2
      have HP := Lib.hid hx
      have HQ := Lib.hid hy
      clear hx hy
      have hg := HR.out.lt
      obtain ⟨xf, xt, xx⟩ := x
      obtain ⟨yf, yt, yx⟩ := y
      obtain ⟨u1, u2, u3⟩ := x1
      obtain ⟨v1, v2, v3⟩ := x2
      dsimp only at u1 u2 u3 v1 v2 v3
      have HO := Lib.hid (order_any ⟨xf, xt, xx⟩ ⟨yf, yt, yx⟩ wr.drew)
      have HS := Lib.hid (splV_lt ⟨xf, xt, xx⟩ ⟨yf, yt, yx⟩)
      obtain ⟨v, hv⟩ : ∃ v, splV ⟨xf, xt, xx⟩ ⟨yf, yt, yx⟩ = v := ⟨_, rfl⟩
      rw [hv] at HO HS
      clear hv
      dsimp only at HO
      by_cases hlt0 : v < 0
      · have HK := Lib.hid (HQ1.out (HS.out.1 hlt0))
        go_wp2_with fail
        go_region_held3 (fun w' => w'.cell? ⟨g, m * 3, none⟩ = some (.int .i64 xf) ∧ w'.cell? ⟨g, m * 3 + 1, none⟩ = some (.int .i64 xt) ∧ w'.cell? ⟨g, m * 3 + 2, none⟩ = some (.string xx) ∧ w'.cell? ⟨g, q * 3, none⟩ = some (.int .i64 yf) ∧ w'.cell? ⟨g, q * 3 + 1, none⟩ = some (.int .i64 yt) ∧ w'.cell? ⟨g, q * 3 + 2, none⟩ = some (.string yx))
          (first | go_keep | exact ⟨(hb3.cell (p := ⟨g, m * 3, none⟩) hg).trans u1, (hb3.cell (p := ⟨g, m * 3 + 1, none⟩) hg).trans u2, (hb3.cell (p := ⟨g, m * 3 + 2, none⟩) hg).trans u3, (hb3.cell (p := ⟨g, q * 3, none⟩) hg).trans v1, (hb3.cell (p := ⟨g, q * 3 + 1, none⟩) hg).trans v2, (hb3.cell (p := ⟨g, q * 3 + 2, none⟩) hg).trans v3⟩)
          (first | (go_at_call 43; refine HO.out.mono ?_; rintro e w3 ⟨rfl, hb3⟩))
        have hbq : But g wr w3 := (But.refl g wr).drew.trans (But.of_below (g := g) (a := wr.drew) hb3)
        have hr3 := (show Arr K wr.drew g t n from HR.out).below hb3
        have HB3 := Lib.hid hbq
        have HR3 := Lib.hid hr3
        clear hb3 hbq hr3 u1 u2 u3 v1 v2 v3
        have hlt1 : v < (0 : Int) := hlt0
        have hlt2 : decide (v < (0 : Int)) = true := by simpa using hlt0
        go_wp2_with fail
        go_roundw
        case rel =>
          refine ⟨i, q, rfl, rfl, h1, by omega, by omega, HLo.out, fun k k1 k2 => ?_, HR3.out, HB.out.trans HB3.out⟩
          by_cases e : k = q
          · rw [e]; exact HK.out
          · exact Nat.lt_trans HK.out (HH.out.left q k (by omega) (by omega) k2)
        case measure => simp [intOf]; omega
      · have hav : aheadV ⟨xf, xt, xx⟩ ⟨yf, yt, yx⟩ = false := by
          cases hc : aheadV ⟨xf, xt, xx⟩ ⟨yf, yt, yx⟩
          · rfl
          · exact absurd (HS.out.2 hc) hlt0
        have HK := Lib.hid (HQ2.out hav)
        clear hav
        have hge : ¬ v < (0 : Int) := by omega
        have hge2 : (0 : Int) ≤ v := by omega
        have hge3 : decide (v < (0 : Int)) = false := by simpa using hge
        go_wp2_with fail
        go_region_held3 (fun w' => w'.cell? ⟨g, m * 3, none⟩ = some (.int .i64 xf) ∧ w'.cell? ⟨g, m * 3 + 1, none⟩ = some (.int .i64 xt) ∧ w'.cell? ⟨g, m * 3 + 2, none⟩ = some (.string xx) ∧ w'.cell? ⟨g, q * 3, none⟩ = some (.int .i64 yf) ∧ w'.cell? ⟨g, q * 3 + 1, none⟩ = some (.int .i64 yt) ∧ w'.cell? ⟨g, q * 3 + 2, none⟩ = some (.string yx))
          (first | go_keep | exact ⟨(hb3.cell (p := ⟨g, m * 3, none⟩) hg).trans u1, (hb3.cell (p := ⟨g, m * 3 + 1, none⟩) hg).trans u2, (hb3.cell (p := ⟨g, m * 3 + 2, none⟩) hg).trans u3, (hb3.cell (p := ⟨g, q * 3, none⟩) hg).trans v1, (hb3.cell (p := ⟨g, q * 3 + 1, none⟩) hg).trans v2, (hb3.cell (p := ⟨g, q * 3 + 2, none⟩) hg).trans v3⟩)
          (first | (go_at_call 43; refine HO.out.mono ?_; rintro e w3 ⟨rfl, hb3⟩))
        have hbq : But g wr w3 := (But.refl g wr).drew.trans (But.of_below (g := g) (a := wr.drew) hb3)
        have hr3 := (show Arr K wr.drew g t n from HR.out).below hb3
        have HB3 := Lib.hid hbq
        have HR3 := Lib.hid hr3
        clear hb3 hbq hr3 u1 u2 u3 v1 v2 v3
        go_wp2_with fail
        go_roundw
        case rel =>
          refine ⟨q + 1, j, by go_num, rfl, by omega, by omega, h3, fun k k1 k2 => ?_, HHi.out, HR3.out, HB.out.trans HB3.out⟩
          by_cases e : k = q
          · rw [e]; exact HK.out
          · exact Nat.lt_trans (HH.out.left k q k1 (by omega) (by omega)) HK.out
        case measure => simp [intOf]; omega
    · obtain rfl : i = j := by omega
      obtain ⟨wo, rfl⟩ : ∃ wo : World, wo = wr := ⟨_, rfl⟩
      have HF := Lib.hid (shr_merged HH.out HM.out h1 h3 HLo.out HHi.out)
      go_wp2_with fail
      go_loopw [17] (fun u wx => ∃ k : Nat, u = .int .i64 k ∧ i ≤ k ∧ k ≤ m ∧ Arr K wx g (shr t m k) n ∧ But g wo wx) (fun u _ => (intOf u).toNat)
      case atStart => exact ⟨m, rfl, h3, Nat.le_refl _, by rw [shr_start]; exact HR.out, But.refl _ _⟩
      case round =>
        obtain ⟨k, rfl, k1, k2, harr, hbut⟩ := hrel
        have HR2 := Lib.hid harr
        have HB2 := Lib.hid hbut
        clear harr hbut
        by_cases hlt : i < k
        · have e3 : (k : Int) - 1 = ((k - 1 : Nat) : Int) := by omega
          have i1 : (k : Int) < (n : Int) := by omega
          have i2 : ((k - 1 : Nat) : Int) < (n : Int) := by omega
          have x1 := HR2.out.at_ k (by omega)
          have x2 := HR2.out.at_ (k - 1) (by omega)
          have fz := HR2.out.free
          obtain ⟨x, hx⟩ : ∃ z, K (shr t m k k) = z := ⟨_, rfl⟩
          obtain ⟨y, hy⟩ : ∃ z, K (shr t m k (k - 1)) = z := ⟨_, rfl⟩
          rw [hx] at x1
          rw [hy] at x2
          have HP := Lib.hid hx
          have HQ := Lib.hid hy
          clear hx hy
          obtain ⟨xf, xt, xx⟩ := x
          obtain ⟨yf, yt, yx⟩ := y
          obtain ⟨u1, u2, u3⟩ := x1
          obtain ⟨v1, v2, v3⟩ := x2
          dsimp only at u1 u2 u3 v1 v2 v3
          go_wp2_with fail
          go_region
          go_wp2_with fail
          go_roundw
          case rel =>
            refine ⟨k - 1, rfl, by omega, by omega, ?_, HB2.out.trans ((((((((But.refl g wr).setCell _ _).setCell _ _).setCell _ _).setCell _ _).setCell _ _).setCell _ _).drew)⟩
            have hs := Arr.swap HR2.out k (k - 1) (by omega) (by omega) (by omega)
            rw [HP.out, HQ.out, shr_next t k2 (by omega)] at hs
            dsimp only at hs
            exact hs.drew
          case measure => simp [intOf]; omega
        · obtain rfl : k = i := by omega
          go_wp2_with fail
          exact bodyPost_ret (results_none rfl _ _ _) rfl ⟨rfl, ⟨_, HF.out, HR2.out⟩, HB.out.trans HB2.out⟩

end Go.Proofs.Ytfflfbnnohlipaa
