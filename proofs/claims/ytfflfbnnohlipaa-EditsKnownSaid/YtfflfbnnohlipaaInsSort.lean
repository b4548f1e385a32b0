/- slices.insertionSortCmpFunc at splices, by Sort's order. -/
import Derived.Test.YtfflfbnnohlipaaArr
import Derived.Test.YtfflfbnnohlipaaCmpSpl
namespace Go.Proofs.Ytfflfbnnohlipaa
open Go.RowKit
set_option linter.unusedVariables false
set_option linter.unusedSimpArgs false
variable {K : Nat → Spl} {w w' : World} {g n : Nat} {t : Nat → Nat}

theorem Img.bound {t t' : Nat → Nat} {a b n N : Nat} (h : Img t t' a b) (hb : b ≤ n) (hl : ∀ k, k < n → t k < N) : ∀ k, k < n → t' k < N := by
  intro k hk
  by_cases c : a ≤ k ∧ k < b
  · obtain ⟨k', _, h2, e⟩ := h.1 k c.1 c.2
    rw [e]; exact hl _ (by omega)
  · rw [h.2 k (by omega)]; exact hl k hk

/-- Block g holds what it held, from a to b in order. -/
def Ordered (K : Nat → Spl) (g n : Nat) (t : Nat → Nat) (a b : Nat) (w' : World) : Prop := ∃ t', Merged t t' a b ∧ Arr K w' g t' n

def Tells (K : Nat → Spl) (ix : Nat → Nat) (N : Nat) : Prop := ∀ p q, p < N → q < N → ix q < ix p → (aheadV (K p) (K q) = true ↔ p < q)
theorem Tells.yes {ix : Nat → Nat} {N p q : Nat} (h : Tells K ix N) (hp : p < N) (hq : q < N) (hi : ix q < ix p) (ha : aheadV (K p) (K q) = true) : p < q := (h p q hp hq hi).1 ha
theorem Tells.no {ix : Nat → Nat} {N p q : Nat} (h : Tells K ix N) (hp : p < N) (hq : q < N) (hi : ix q < ix p) (ha : aheadV (K p) (K q) = false) : q < p := by
  rcases Nat.lt_trichotomy q p with c | c | c
  · exact c
  · rw [c] at hi; omega
  · have := (h p q hp hq hi).2 c; rw [ha] at this; cases this

set_option maxRecDepth 1000000 in
set_option maxHeartbeats 3200000 in
theorem insertion_any (c a b N : Nat) (ix : Nat → Nat) (hT : Tells K ix N) (hn : n ≤ 1000) (hab : a ≤ b) (hbn : b ≤ n) (hlt : ∀ k, k < n → t k < N) (hix : ∀ p q, a ≤ p → p < q → q < b → ix (t p) < ix (t q)) (h : Arr K w g t n) :
    Calls Try.prog 53 #[.slice (some ⟨g, 0, none⟩) n c, .int .i64 a, .int .i64 b, .func (.func 43) #[] #[]] w fun e w' => e = .returned (.tuple #[]) ∧ Ordered K g n t a b w' ∧ But g w w' := by
  have HA := Lib.hid h
  have HX := Lib.hid hix
  have HT := Lib.hid hT
  have HL := Lib.hid hlt
  clear h hix hT hlt
  go_enter Try.func53, Try.ntmps53
  go_wp2_with fail
  go_loopw [8] (fun u wr => ∃ (i : Nat) (t' : Nat → Nat), u = .int .i64 i ∧ a < i ∧ (i ≤ b ∨ i = a + 1) ∧ InsAll ix t t' a i b ∧ Arr K wr g t' n ∧ But g w wr) (fun u _ => b + 1 - (intOf u).toNat)
  case atStart => exact ⟨a + 1, t, by go_num, by omega, .inr rfl, InsAll.start _ _ _ _, HA.out, But.refl _ _⟩
  case round =>
    obtain ⟨i, t', rfl, hai, hib, hins, harr, hbut⟩ := hrel
    have HI := Lib.hid hins
    have HR := Lib.hid harr
    have HB := Lib.hid hbut
    clear hins harr hbut
    by_cases hlt : i < b
    · clear hib
      obtain ⟨wo, rfl⟩ : ∃ wo : World, wo = wr := ⟨_, rfl⟩
      go_wp2_with fail
      go_loopw [9] (fun u wx => ∃ (j : Nat) (t2 : Nat → Nat), u = .int .i64 j ∧ Ins ix t' t2 a i j ∧ Arr K wx g t2 n ∧ But g wo wx) (fun u _ => (intOf u).toNat)
      case atStart => exact ⟨i, t', rfl, HI.out.begin hai hlt HX.out, HR.out, But.refl _ _⟩
      case round =>
        obtain ⟨j, t2, rfl, hj, harr2, hbut2⟩ := hrel
        have hj1 := hj.lo
        have hj2 := hj.hi
        have HJ := Lib.hid hj
        have HR2 := Lib.hid harr2
        have HB2 := Lib.hid hbut2
        clear hj harr2 hbut2
        by_cases hja : a < j
        · have hja2 : (a : Int) < (j : Int) := by omega
          have x1 := HR2.out.at_ j (by omega)
          have x2 := HR2.out.at_ (j - 1) (by omega)
          have fz := HR2.out.free
          have hbd := HI.out.img.bound (by omega) HL.out
          have hb2 := HJ.out.img.bound (by omega) hbd
          have q1 := HT.out.yes (hb2 j (by omega)) (hb2 (j - 1) (by omega)) (HJ.out.last _ (by omega) (by omega) (by omega))
          have q2 := HT.out.no (hb2 j (by omega)) (hb2 (j - 1) (by omega)) (HJ.out.last _ (by omega) (by omega) (by omega))
          have HQ1 := Lib.hid q1
          have HQ2 := Lib.hid q2
          clear hbd hb2 q1 q2
          obtain ⟨x, hx⟩ : ∃ p, K (t2 j) = p := ⟨_, rfl⟩
          obtain ⟨y, hy⟩ : ∃ q, K (t2 (j - 1)) = q := ⟨_, rfl⟩
          rw [hx] at x1 HQ1 HQ2
          rw [hy] at x2 HQ1 HQ2
          have HP := Lib.hid hx
          have HQ := Lib.hid hy
          clear hx hy
          have hg := HR2.out.lt
          obtain ⟨xf, xt, xx⟩ := x
          obtain ⟨yf, yt, yx⟩ := y
          obtain ⟨u1, u2, u3⟩ := x1
          obtain ⟨v1, v2, v3⟩ := x2
          dsimp only at u1 u2 u3 v1 v2 v3
          have hwj : IntKind.i64.wrap ((j : Int) - 1) = (j : Int) - 1 := Go.IntWalk.i64_in _ (by omega)
          have i0 : (0 : Int) ≤ (j : Int) := by omega
          have i1 : (0 : Int) ≤ (j : Int) - 1 := by omega
          have i2 : (j : Int) - 1 < (n : Int) := by omega
          have i3 : (j : Int) < (n : Int) := by omega
          have i5 : (1 : Int) ≤ (j : Int) := by omega
          have t1 : ((j : Int) - 1).toNat = j - 1 := by omega
          have HO := Lib.hid (order_any ⟨xf, xt, xx⟩ ⟨yf, yt, yx⟩ wr.drew)
          have HS := Lib.hid (splV_lt ⟨xf, xt, xx⟩ ⟨yf, yt, yx⟩)
          obtain ⟨v, hv⟩ : ∃ v, splV ⟨xf, xt, xx⟩ ⟨yf, yt, yx⟩ = v := ⟨_, rfl⟩
          rw [hv] at HO HS
          clear hv
          dsimp only at HO
          by_cases hlt0 : v < 0
          · have HK := Lib.hid (HQ1.out (HS.out.1 hlt0))
            go_wp2_with fail
            go_region_held3 (fun w' => w'.cell? ⟨g, j * 3, none⟩ = some (.int .i64 xf) ∧ w'.cell? ⟨g, j * 3 + 1, none⟩ = some (.int .i64 xt) ∧ w'.cell? ⟨g, j * 3 + 2, none⟩ = some (.string xx) ∧ w'.cell? ⟨g, (j - 1) * 3, none⟩ = some (.int .i64 yf) ∧ w'.cell? ⟨g, (j - 1) * 3 + 1, none⟩ = some (.int .i64 yt) ∧ w'.cell? ⟨g, (j - 1) * 3 + 2, none⟩ = some (.string yx))
              (first | go_keep | exact ⟨(hb3.cell (p := ⟨g, j * 3, none⟩) hg).trans u1, (hb3.cell (p := ⟨g, j * 3 + 1, none⟩) hg).trans u2, (hb3.cell (p := ⟨g, j * 3 + 2, none⟩) hg).trans u3, (hb3.cell (p := ⟨g, (j - 1) * 3, none⟩) hg).trans v1, (hb3.cell (p := ⟨g, (j - 1) * 3 + 1, none⟩) hg).trans v2, (hb3.cell (p := ⟨g, (j - 1) * 3 + 2, none⟩) hg).trans v3⟩)
              (first | (go_at_call 43; refine HO.out.mono ?_; rintro e w3 ⟨rfl, hb3⟩))
            have hbq : But g wr w3 := (But.refl g wr).drew.trans (But.of_below (g := g) (a := wr.drew) hb3)
            have hr3 := (show Arr K wr.drew g t2 n from HR2.out).below hb3
            have HB3 := Lib.hid hbq
            have HR3 := Lib.hid hr3
            clear hb3 hbq hr3 u1 u2 u3 v1 v2 v3 fz
            have x1 := HR3.out.at_ j (by omega)
            have x2 := HR3.out.at_ (j - 1) (by omega)
            have fz := HR3.out.free
            rw [HP.out] at x1
            rw [HQ.out] at x2
            obtain ⟨u1, u2, u3⟩ := x1
            obtain ⟨v1, v2, v3⟩ := x2
            dsimp only at u1 u2 u3 v1 v2 v3
            have hlt1 : v < (0 : Int) := hlt0
            go_wp2_with fail
            go_region
            go_wp2_with fail
            go_roundw
            case rel =>
              refine ⟨j - 1, _, by rw [show ((j - 1 : Nat) : Int) = (j : Int) - 1 by omega], HJ.out.swap hja HK.out, ?_, ?_⟩
              · have hs := Arr.swap HR3.out j (j - 1) (by omega) (by omega) (by omega)
                rw [HP.out, HQ.out] at hs
                dsimp only at hs
                exact hs.drew
              · exact HB2.out.trans (HB3.out.trans ((((((((But.refl g w3).setCell _ _).setCell _ _).setCell _ _).setCell _ _).setCell _ _).setCell _ _).drew))
            case measure => simp [intOf]; omega
          · have hav : aheadV ⟨xf, xt, xx⟩ ⟨yf, yt, yx⟩ = false := by
              cases hc : aheadV ⟨xf, xt, xx⟩ ⟨yf, yt, yx⟩
              · rfl
              · exact absurd (HS.out.2 hc) hlt0
            have HK := Lib.hid (HQ2.out hav)
            clear hav
            go_wp2_with fail
            go_region_held3 (fun w' => w'.cell? ⟨g, j * 3, none⟩ = some (.int .i64 xf) ∧ w'.cell? ⟨g, j * 3 + 1, none⟩ = some (.int .i64 xt) ∧ w'.cell? ⟨g, j * 3 + 2, none⟩ = some (.string xx) ∧ w'.cell? ⟨g, (j - 1) * 3, none⟩ = some (.int .i64 yf) ∧ w'.cell? ⟨g, (j - 1) * 3 + 1, none⟩ = some (.int .i64 yt) ∧ w'.cell? ⟨g, (j - 1) * 3 + 2, none⟩ = some (.string yx))
              (first | go_keep | exact ⟨(hb3.cell (p := ⟨g, j * 3, none⟩) hg).trans u1, (hb3.cell (p := ⟨g, j * 3 + 1, none⟩) hg).trans u2, (hb3.cell (p := ⟨g, j * 3 + 2, none⟩) hg).trans u3, (hb3.cell (p := ⟨g, (j - 1) * 3, none⟩) hg).trans v1, (hb3.cell (p := ⟨g, (j - 1) * 3 + 1, none⟩) hg).trans v2, (hb3.cell (p := ⟨g, (j - 1) * 3 + 2, none⟩) hg).trans v3⟩)
              (first | (go_at_call 43; refine HO.out.mono ?_; rintro e w3 ⟨rfl, hb3⟩))
            have hbq : But g wr w3 := (But.refl g wr).drew.trans (But.of_below (g := g) (a := wr.drew) hb3)
            have hr3 := (show Arr K wr.drew g t2 n from HR2.out).below hb3
            have HB3 := Lib.hid hbq
            have HR3 := Lib.hid hr3
            clear hb3 hbq hr3 u1 u2 u3 v1 v2 v3 fz
            have hge : ¬ v < (0 : Int) := by omega
            go_wp2_with fail
            go_roundw
            case rel => exact ⟨i + 1, _, by go_num, by omega, .inl (by omega), HI.out.next hlt HJ.out (fun _ => HK.out), HR3.out, (HB.out.trans HB2.out).trans HB3.out⟩
            case measure => simp [intOf]; omega
        · have d0 : decide ((a : Int) < (j : Int)) = false := by simp; omega
          have hge : ¬ (a : Int) < (j : Int) := by omega
          go_wp2_with fail
          go_quiet (fail)
          go_wp2_with fail
          go_roundw
          case rel => exact ⟨i + 1, _, by go_num, by omega, .inl (by omega), HI.out.next hlt HJ.out (fun h => absurd h hja), HR2.out, (HB.out.trans HB2.out).drewN _⟩
          case measure => simp [intOf]; omega
    · go_wp2_with fail
      go_end0
      exact ⟨rfl, ⟨t', ⟨HI.out.img, fun p q h1 h2 h3 => HI.out.asc p q h1 h2 (by omega)⟩, HR.out⟩, HB.out⟩
end Go.Proofs.Ytfflfbnnohlipaa
