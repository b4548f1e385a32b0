/- An array of splices of the call's own, told by a function from places; swaps in place; slices.swapRangeCmpFunc, rotateCmpFunc. -/
import Derived.Test.YtfflfbnnohlipaaAhead
import Derived.Test.YtfflfbnnohlipaaMerge
import Derived.BigRegion
namespace Go.Proofs.Ytfflfbnnohlipaa
open Go.RowKit
set_option linter.unusedVariables false
set_option linter.unusedSimpArgs false

/-- Block g turns, and what is new is laid; no block else turns. -/
structure But (g : Nat) (w w' : World) : Prop where
  os : w'.os = w.os
  tape : w'.tape = w.tape
  output : w'.output = w.output
  size : w.heap.size ≤ w'.heap.size
  block : ∀ k, k < w.heap.size → k ≠ g → w'.heap[k]? = w.heap[k]?

theorem But.refl (g : Nat) (w : World) : But g w w := ⟨rfl, rfl, rfl, Nat.le_refl _, fun _ _ _ => rfl⟩
theorem But.trans {g : Nat} {a b c : World} (h : But g a b) (k : But g b c) : But g a c :=
  ⟨k.os.trans h.os, k.tape.trans h.tape, k.output.trans h.output, Nat.le_trans h.size k.size, fun i hi hg => (k.block i (Nat.lt_of_lt_of_le hi h.size) hg).trans (h.block i hi hg)⟩
theorem But.drew {g : Nat} {a b : World} (h : But g a b) : But g a b.drew := ⟨h.os, h.tape, h.output, h.size, h.block⟩
theorem But.drewN {g : Nat} {a b : World} (h : But g a b) (n : Nat) : But g a (b.drewN n) := ⟨h.os, h.tape, h.output, h.size, h.block⟩
theorem But.of_below {g : Nat} {a b : World} (h : Below a.heap.size a b) : But g a b := ⟨h.os, h.tape, h.output, h.size, fun k hk _ => h.block k hk⟩
theorem But.setCell {g : Nat} {a b : World} (h : But g a b) (o : Nat) (u : Value) : But g a (b.setCell ⟨g, o, none⟩ u) :=
  h.trans ⟨rfl, rfl, rfl, by simp [World.setCell], fun k _ hg => Below.heap_setCell _ _ _ _ hg⟩
theorem But.below {g B : Nat} {w w' : World} (h : But g w w') (hB : B ≤ g) (hs : B ≤ w.heap.size) : Below B w w' := ⟨h.os, h.tape, h.output, h.size, fun k hk => h.block k (by omega) (by omega)⟩

/-- Block g holds the splices K (t 0), K (t 1) .., n of them. -/
def Arr (K : Nat → Spl) (w : World) (g : Nat) (t : Nat → Nat) (n : Nat) : Prop :=
  ∃ c : Array Value, w.heap[g]? = some (.cells c 33 (0, 0)) ∧ ∀ i, i < n → c[i * 3]? = some (.int .i64 (K (t i)).frm) ∧ c[i * 3 + 1]? = some (.int .i64 (K (t i)).to) ∧ c[i * 3 + 2]? = some (.string (K (t i)).text)

variable {K : Nat → Spl} {w w' : World} {g n : Nat} {t : Nat → Nat}

theorem Arr.lt (h : Arr K w g t n) : g < w.heap.size := by
  obtain ⟨c, h, _⟩ := h
  exact (Array.getElem?_eq_some_iff.1 h).1
theorem Arr.at_ (h : Arr K w g t n) (i : Nat) (hi : i < n) : w.cell? ⟨g, i * 3, none⟩ = some (.int .i64 (K (t i)).frm) ∧ w.cell? ⟨g, i * 3 + 1, none⟩ = some (.int .i64 (K (t i)).to) ∧ w.cell? ⟨g, i * 3 + 2, none⟩ = some (.string (K (t i)).text) := by
  obtain ⟨c, h, hc⟩ := h
  obtain ⟨h1, h2, h3⟩ := hc i hi
  refine ⟨?_, ?_, ?_⟩ <;> simp [World.cell?, h, h1, h2, h3]
theorem Arr.free (h : Arr K w g t n) (o : Nat) : w.frozen? ⟨g, o, none⟩ = false := by
  obtain ⟨c, h, _⟩ := h
  simp [World.frozen?, h]
theorem Arr.below (h : Arr K w g t n) (hb : Below w.heap.size w w') : Arr K w' g t n := by
  have hl := h.lt
  obtain ⟨c, h, hc⟩ := h
  exact ⟨c, (hb.block g hl).trans h, hc⟩
theorem Arr.drew (h : Arr K w g t n) : Arr K w.drew g t n := h
theorem Arr.drewN (h : Arr K w g t n) (q : Nat) : Arr K (w.drewN q) g t n := h
theorem Arr.same {t' : Nat → Nat} (h : Arr K w g t n) (he : ∀ i, i < n → t' i = t i) : Arr K w g t' n := by
  obtain ⟨c, h, hc⟩ := h
  exact ⟨c, h, fun i hi => by rw [he i hi]; exact hc i hi⟩

theorem heap_setCell_at {w : World} {g o : Nat} {c : Array Value} {e : TypeId} {fz : Nat × Nat} {v : Value} (h : w.heap[g]? = some (.cells c e fz)) : (w.setCell ⟨g, o, none⟩ v).heap[g]? = some (.cells (c.setIfInBounds o v) e fz) := by
  simp only [World.setCell, Array.getElem?_modify]
  simp [h]

/-- Behind an exchange of places i and j. -/
theorem Arr.swap (h : Arr K w g t n) (i j : Nat) (hi : i < n) (hj : j < n) (hij : i ≠ j) :
    Arr K ((((((w.setCell ⟨g, i * 3, none⟩ (.int .i64 (K (t j)).frm)).setCell ⟨g, i * 3 + 1, none⟩ (.int .i64 (K (t j)).to)).setCell ⟨g, i * 3 + 2, none⟩ (.string (K (t j)).text)).setCell ⟨g, j * 3, none⟩ (.int .i64 (K (t i)).frm)).setCell ⟨g, j * 3 + 1, none⟩ (.int .i64 (K (t i)).to)).setCell ⟨g, j * 3 + 2, none⟩ (.string (K (t i)).text)) g (swp t i j) n := by
  obtain ⟨c, h, hc⟩ := h
  refine ⟨_, heap_setCell_at (heap_setCell_at (heap_setCell_at (heap_setCell_at (heap_setCell_at (heap_setCell_at h))))), fun k hk => ?_⟩
  have hi1 := (Array.getElem?_eq_some_iff.1 (hc i hi).2.2).1
  have hj1 := (Array.getElem?_eq_some_iff.1 (hc j hj).2.2).1
  obtain ⟨k1, k2, k3⟩ := hc k hk
  unfold swp
  by_cases e1 : k = i
  · subst e1
    rw [if_pos rfl]
    refine ⟨?_, ?_, ?_⟩
    · rw [Array.getElem?_setIfInBounds_ne (by omega), Array.getElem?_setIfInBounds_ne (by omega), Array.getElem?_setIfInBounds_ne (by omega), Array.getElem?_setIfInBounds_ne (by omega), Array.getElem?_setIfInBounds_ne (by omega), Array.getElem?_setIfInBounds_self_of_lt (by omega)]
    · rw [Array.getElem?_setIfInBounds_ne (by omega), Array.getElem?_setIfInBounds_ne (by omega), Array.getElem?_setIfInBounds_ne (by omega), Array.getElem?_setIfInBounds_ne (by omega), Array.getElem?_setIfInBounds_self_of_lt (by simp; omega)]
    · rw [Array.getElem?_setIfInBounds_ne (by omega), Array.getElem?_setIfInBounds_ne (by omega), Array.getElem?_setIfInBounds_ne (by omega), Array.getElem?_setIfInBounds_self_of_lt (by simp; omega)]
  · rw [if_neg e1]
    by_cases e2 : k = j
    · subst e2
      rw [if_pos rfl]
      refine ⟨?_, ?_, ?_⟩
      · rw [Array.getElem?_setIfInBounds_ne (by omega), Array.getElem?_setIfInBounds_ne (by omega), Array.getElem?_setIfInBounds_self_of_lt (by simp; omega)]
      · rw [Array.getElem?_setIfInBounds_ne (by omega), Array.getElem?_setIfInBounds_self_of_lt (by simp; omega)]
      · rw [Array.getElem?_setIfInBounds_self_of_lt (by simp; omega)]
    · rw [if_neg e2]
      refine ⟨?_, ?_, ?_⟩
      all_goals rw [Array.getElem?_setIfInBounds_ne (by omega), Array.getElem?_setIfInBounds_ne (by omega), Array.getElem?_setIfInBounds_ne (by omega), Array.getElem?_setIfInBounds_ne (by omega), Array.getElem?_setIfInBounds_ne (by omega), Array.getElem?_setIfInBounds_ne (by omega)]; assumption

set_option maxRecDepth 1000000 in
set_option maxHeartbeats 1600000 in
theorem swapRange_any (c : Nat) (f : Value) (a b m : Nat) (hn : n ≤ 1000) (ham : a + m ≤ b) (hbm : b + m ≤ n) (h : Arr K w g t n) :
    Calls Try.prog 56 #[.slice (some ⟨g, 0, none⟩) n c, .int .i64 a, .int .i64 b, .int .i64 m, f] w fun e w' => e = .returned (.tuple #[]) ∧ Arr K w' g (swr t a b m) n ∧ But g w w' := by
  have HA := Lib.hid h
  clear h
  go_enter Try.func56, Try.ntmps56
  go_wp2_with fail
  go_loopw [10] (fun i wr => ∃ (k : Nat), k ≤ m ∧ i = .int .i64 k ∧ Arr K wr g (swr t a b k) n ∧ But g w wr) (fun i _ => m - (intOf i).toNat)
  case atStart => exact ⟨0, Nat.zero_le _, rfl, by rw [swr_zero]; exact HA.out, But.refl _ _⟩
  case round =>
    obtain ⟨k, hk, rfl, ha, hb⟩ := hrel
    have HR := Lib.hid ha
    have HB := Lib.hid hb
    clear ha hb
    by_cases hlt : k < m
    · have x1 := HR.out.at_ (a + k) (by omega)
      have x2 := HR.out.at_ (b + k) (by omega)
      have fz := HR.out.free
      obtain ⟨p, hp⟩ : ∃ p, K (swr t a b k (a + k)) = p := ⟨_, rfl⟩
      obtain ⟨q, hq⟩ : ∃ q, K (swr t a b k (b + k)) = q := ⟨_, rfl⟩
      rw [hp] at x1
      rw [hq] at x2
      have HP := Lib.hid hp
      have HQ := Lib.hid hq
      clear hp hq
      obtain ⟨pf, pt, px⟩ := p
      obtain ⟨qf, qt, qx⟩ := q
      obtain ⟨u1, u2, u3⟩ := x1
      obtain ⟨v1, v2, v3⟩ := x2
      dsimp only at u1 u2 u3 v1 v2 v3
      have i1 : (0 : Int) ≤ (a : Int) + (k : Int) := by omega
      have i2 : (a : Int) + (k : Int) < (n : Int) := by omega
      have i3 : (0 : Int) ≤ (b : Int) + (k : Int) := by omega
      have i4 : (b : Int) + (k : Int) < (n : Int) := by omega
      have t1 : ((a : Int) + (k : Int)).toNat = a + k := by omega
      have t2 : ((b : Int) + (k : Int)).toNat = b + k := by omega
      go_wp2_with fail
      go_region
      go_wp2_with fail
      go_roundw
      case rel =>
        refine ⟨k + 1, by omega, by go_num, ?_, ?_⟩
        · have hs := Arr.swap HR.out (a + k) (b + k) (by omega) (by omega) (by omega)
          rw [HP.out, HQ.out, swr_succ t a b m k ham hlt] at hs
          dsimp only at hs
          exact hs.drew
        · exact (((((((HB.out.setCell _ _).setCell _ _).setCell _ _).setCell _ _).setCell _ _).setCell _ _).drew)
      case measure => simp [intOf]; omega
    · obtain rfl : k = m := by omega
      go_wp2
      go_end0
      exact ⟨rfl, HR.out, HB.out⟩


set_option maxRecDepth 1000000 in
set_option maxHeartbeats 1600000 in
theorem rotate_any (c : Nat) (f : Value) (a m b : Nat) (hn : n ≤ 1000) (ham : a < m) (hmb : m < b) (hbn : b ≤ n) (h : Arr K w g t n) :
    Calls Try.prog 55 #[.slice (some ⟨g, 0, none⟩) n c, .int .i64 a, .int .i64 m, .int .i64 b, f] w fun e w' => e = .returned (.tuple #[]) ∧ Arr K w' g (rot t a m b) n ∧ But g w w' := by
  have HA := Lib.hid h
  have ea : ((m : Int) - (a : Int)) = ((m - a : Nat) : Int) := by omega
  have eb : ((b : Int) - (m : Int)) = ((b - m : Nat) : Int) := by omega
  have h0 : rot t (m - (m - a)) m (m + (b - m)) = rot t a m b := by rw [show m - (m - a) = a by omega, show m + (b - m) = b by omega]
  have H0 := Lib.hid h0
  obtain ⟨i0, hi0⟩ : ∃ i, m - a = i := ⟨_, rfl⟩
  obtain ⟨j0, hj0⟩ : ∃ j, b - m = j := ⟨_, rfl⟩
  rw [hi0] at ea
  rw [hj0] at eb
  have b1 : i0 ≤ m := by omega
  have b2 : m + j0 ≤ n := by omega
  have b3 : 0 < i0 := by omega
  have b4 : 0 < j0 := by omega
  have HI := Lib.hid hi0
  have HJ := Lib.hid hj0
  clear h h0 hi0 hj0
  go_enter Try.func55, Try.ntmps55
  go_wp2_with fail
  go_loopw [10, 11] (fun u v wr => ∃ (i j : Nat) (t' : Nat → Nat), u = .int .i64 i ∧ v = .int .i64 j ∧ 0 < i ∧ 0 < j ∧ i ≤ i0 ∧ j ≤ j0 ∧ Arr K wr g t' n ∧ rot t' (m - i) m (m + j) = rot t a m b ∧ But g w wr) (fun u v _ => (intOf u).toNat + (intOf v).toNat)
  case atStart => exact ⟨i0, j0, t, rfl, rfl, b3, b4, Nat.le_refl _, Nat.le_refl _, HA.out, by rw [← HI.out, ← HJ.out]; exact H0.out, But.refl _ _⟩
  case round =>
    obtain ⟨i, j, t', rfl, rfl, hi, hj, hii, hjj, ha, hr, hb⟩ := hrel
    have HR := Lib.hid ha
    have HO := Lib.hid hr
    have HB := Lib.hid hb
    have e1 : ((m : Int) - (i : Int)) = ((m - i : Nat) : Int) := by omega
    have e2 : ((m : Int) + (j : Int) - (i : Int)) = ((m + j - i : Nat) : Int) ∨ j < i := by omega
    clear ha hr hb
    by_cases hne : i = j
    · subst hne
      go_wp2_with fail
      refine (swapRange_any (K := K) _ _ (m - i) m i hn (by omega) (by omega) HR.out).mono ?_
      rintro e w1 ⟨rfl, ha1, hb1⟩
      have HA1 := Lib.hid ha1
      have HB1 := Lib.hid hb1
      clear ha1 hb1
      go_wp2
      go_end0
      exact ⟨rfl, by rw [← HO.out, ← rot_same t' (by omega)]; exact HA1.out, HB.out.trans HB1.out⟩
    · have hne2 : (i == j) = false := by simpa using hne
      by_cases hlt : j < i
      · clear e2
        go_wp2_with fail
        refine (swapRange_any (K := K) _ _ (m - i) m j hn (by omega) (by omega) HR.out).mono ?_
        rintro e w1 ⟨rfl, ha1, hb1⟩
        have HA1 := Lib.hid ha1
        have HB1 := Lib.hid hb1
        clear ha1 hb1
        go_wp2_with fail
        go_roundw
        case rel => exact ⟨i - j, j, _, by rw [show ((i - j : Nat) : Int) = (i : Int) - (j : Int) by omega], rfl, by omega, hj, by omega, hjj, HA1.out, by rw [rot_left t' hlt (by omega)]; exact HO.out, HB.out.trans HB1.out⟩
        case measure => simp [intOf]; omega
      · have e3 : ((m : Int) + (j : Int) - (i : Int)) = ((m + j - i : Nat) : Int) := by omega
        clear e2
        go_wp2_with fail
        refine (swapRange_any (K := K) _ _ (m - i) (m + j - i) i hn (by omega) (by omega) HR.out).mono ?_
        rintro e w1 ⟨rfl, ha1, hb1⟩
        have HA1 := Lib.hid ha1
        have HB1 := Lib.hid hb1
        clear ha1 hb1
        go_wp2_with fail
        go_roundw
        case rel => exact ⟨i, j - i, _, rfl, by rw [show ((j - i : Nat) : Int) = (j : Int) - (i : Int) by omega], hi, by omega, hii, by omega, HA1.out, by rw [rot_right t' (by omega) (by omega)]; exact HO.out, HB.out.trans HB1.out⟩
        case measure => simp [intOf]; omega

end Go.Proofs.Ytfflfbnnohlipaa
