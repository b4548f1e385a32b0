/- emendref01.Cmp. -/
import Derived.Test.YtoonneminimbfaaGreatDoorRefMul
namespace Go.Proofs.YtoonneminimbfaaGreatDoor
open Go.RowKit
set_option linter.unusedVariables false
set_option linter.unusedSimpArgs false

theorem dg16_low (n : Nat) (h : n ≠ 0) : 65536 ^ ((dg16 n).length - 1) ≤ n := by
  induction n using Nat.strongRecOn with
  | _ n ih =>
    rw [dg16_pos h, List.length_cons, Nat.add_sub_cancel]
    by_cases h2 : n / 65536 = 0
    · rw [h2, dg16_zero]; simp; omega
    · have := ih (n / 65536) (by omega) h2
      have hp : (dg16 (n / 65536)).length = (dg16 (n / 65536)).length - 1 + 1 := by
        rw [dg16_pos h2, List.length_cons]; omega
      rw [hp, Nat.pow_succ]
      have := Nat.mul_le_mul_right 65536 this
      omega
theorem dg16_lt (n : Nat) : n < 65536 ^ (dg16 n).length := by
  have := vl_lt (dg16 n) (dg16_dig n)
  rwa [vl_dg16] at this
theorem len_lt {n m : Nat} (h : (dg16 n).length < (dg16 m).length) : n < m := by
  have h1 := dg16_lt n
  have hm : m ≠ 0 := by intro e; subst e; rw [dg16_zero] at h; simp at h
  have h2 := dg16_low m hm
  have : 65536 ^ (dg16 n).length ≤ 65536 ^ ((dg16 m).length - 1) := Nat.pow_le_pow_right (by decide) (by omega)
  omega
theorem vl_at_lt {l r : List Nat} {k x y : Nat} (hx : l[k]? = some x) (hy : r[k]? = some y) (hxy : x < y) (hd : l.drop (k + 1) = r.drop (k + 1)) (hl : ∀ x ∈ l, x < 65536) : vl l < vl r := by
  have e1 := vl_append (l.take k) (l.drop k)
  have e2 := vl_append (r.take k) (r.drop k)
  rw [List.take_append_drop, drop_cons hx, vl] at e1
  rw [List.take_append_drop, drop_cons hy, vl, ← hd] at e2
  have hkl : k < l.length := by
    rcases Nat.lt_or_ge k l.length with h | h
    · exact h
    · rw [List.getElem?_eq_none h] at hx; cases hx
  have hkr : k < r.length := by
    rcases Nat.lt_or_ge k r.length with h | h
    · exact h
    · rw [List.getElem?_eq_none h] at hy; cases hy
  have l1 : (l.take k).length = k := by rw [List.length_take]; omega
  have l2 : (r.take k).length = k := by rw [List.length_take]; omega
  rw [l1] at e1
  rw [l2] at e2
  have hlt := vl_lt (l.take k) (fun x hx => hl x (List.mem_of_mem_take hx))
  rw [l1] at hlt
  rw [e1, e2]
  have h3 : 65536 ^ k * (x + 65536 * vl (l.drop (k + 1))) + 65536 ^ k ≤ 65536 ^ k * (y + 65536 * vl (l.drop (k + 1))) := by
    rw [← Nat.mul_succ]; exact Nat.mul_le_mul_left _ (by omega)
  omega
def cmpI (n m : Nat) : Int := if n < m then -1 else if n = m then 0 else 1

set_option maxRecDepth 100000 in
set_option maxHeartbeats 3200000 in
theorem cmp_any (n m : Nat) (A B : Option Addr) (ca cb : Nat) (w : World) (hn : (dg16 n).length ≤ 1000) (hm : (dg16 m).length ≤ 1000) (hA : RowOf uc 1 w w.heap.size A (dg16 n)) (hB : RowOf uc 1 w w.heap.size B (dg16 m)) :
    Calls Tryz.prog 77 #[.slice A (dg16 n).length ca, .slice B (dg16 m).length cb] w fun e w' => e = .returned (.int .i64 (cmpI n m)) ∧ Below w.heap.size w w' := by
  have HA := Lib.hid hA
  have HB := Lib.hid hB
  have HDN := Lib.hid (dg16_dig n)
  have HDM := Lib.hid (dg16_dig m)
  have HVN := Lib.hid (vl_dg16 n)
  have HVM := Lib.hid (vl_dg16 m)
  have HL1 := Lib.hid (@len_lt n m)
  have HL2 := Lib.hid (@len_lt m n)
  have hne1 : n < m → cmpI n m = -1 := fun h => by unfold cmpI; rw [if_pos h]
  have hne2 : m < n → cmpI n m = 1 := fun h => by unfold cmpI; rw [if_neg (by omega), if_neg (by omega)]
  have hne3 : n = m → cmpI n m = 0 := fun h => by unfold cmpI; rw [if_neg (by omega), if_pos h]
  have C1 := Lib.hid hne1
  have C2 := Lib.hid hne2
  have C3 := Lib.hid hne3
  clear hA hB hne1 hne2 hne3
  generalize hl : dg16 n = l at *
  generalize hr : dg16 m = r at *
  generalize cmpI n m = V at *
  clear hl hr
  rcases Nat.lt_trichotomy l.length r.length with h | h | h
  · have hv := C1.out (HL1.out h)
    subst hv
    have h1 : ¬ (l.length : Int) = r.length := by omega
    have h2 : (l.length : Int) < r.length := by omega
    have h3 : ((l.length : Int) == r.length) = false := by simpa using h1
    clear h
    go_enter Tryz.func77, Tryz.ntmps77
    go_wp2_with fail
    go_ret
    exact ⟨rfl, Below.refl _ _⟩
  · have h1 : (l.length : Int) = r.length := by omega
    have h3 : ((l.length : Int) != r.length) = false := by simpa using h1
    have HLL := Lib.hid h
    clear h
    go_enter Tryz.func77, Tryz.ntmps77
    go_wp2_with fail
    go_loopw [5] (fun iv wr => ∃ (k : Nat), k ≤ l.length ∧ iv = .int .i64 ((k : Int) - 1) ∧ l.drop k = r.drop k ∧ Below w.heap.size w wr) (fun iv _ => ((intOf iv) + 1).toNat)
    case atStart => exact ⟨l.length, Nat.le_refl _, by first | rfl | (rw [h1]), by rw [List.drop_length, HLL.out, List.drop_length], Below.refl _ _⟩
    case round =>
      obtain ⟨k, hk, rfl, hd, hb⟩ := hrel
      have HDR := Lib.hid hd
      have HBE := Lib.hid hb
      clear hd hb
      by_cases h0 : k = 0
      · subst h0
        have hv := C3.out (by have := HDR.out; rw [List.drop_zero, List.drop_zero] at this; rw [← HVN.out, ← HVM.out, this])
        subst hv
        go_wp2_with fail
        go_ret
        exact ⟨rfl, HBE.out⟩
      · obtain ⟨p, rfl⟩ : ∃ p, k = p + 1 := ⟨k - 1, by omega⟩
        have e1 : ((p + 1 : Nat) : Int) - 1 = (p : Int) := by omega
        rw [e1]
        obtain ⟨x, hx⟩ := get_some (show p < l.length by omega)
        obtain ⟨y, hy⟩ := get_some (show p < r.length by have := HLL.out; omega)
        obtain ⟨ba, oa, rfl, _, hca⟩ := row_uc (HA.out.below HBE.out (Nat.le_refl _)) hx
        obtain ⟨bb, ob, rfl, _, hcb⟩ := row_uc (HB.out.below HBE.out (Nat.le_refl _)) hy
        have g0 : (0 : Int) ≤ (p : Int) := by omega
        have g1 : (p : Int) < (l.length : Int) := by omega
        have g2 : (p : Int) < (r.length : Int) := by omega
        have HX := Lib.hid hx
        have HY := Lib.hid hy
        clear hx hy
        rcases Nat.lt_trichotomy x y with hxy | hxy | hxy
        · have hv := C1.out (by rw [← HVN.out, ← HVM.out]; exact vl_at_lt HX.out HY.out hxy HDR.out HDN.out)
          subst hv
          have d1 : decide ((x : Int) < (y : Int)) = true := by simp; omega
          go_wp2_with fail
          go_region
          go_wp2_with fail
          go_ret
          exact ⟨rfl, below_dr HBE.out⟩
        · have HE := Lib.hid hxy
          have d1 : decide ((x : Int) < (y : Int)) = false := by simp; omega
          have d2 : decide ((x : Int) > (y : Int)) = false := by simp; omega
          go_wp2_with fail
          go_region
          go_wp2_with fail
          go_region
          go_wp2_with fail
          refine ⟨⟨p, by omega, by first | rfl | go_num, by rw [drop_cons HX.out, drop_cons HY.out, HE.out, HDR.out], below_dr (below_dr HBE.out)⟩, by simp [intOf] <;> omega⟩
        · have hv := C2.out (by rw [← HVN.out, ← HVM.out]; exact vl_at_lt HY.out HX.out hxy HDR.out.symm HDM.out)
          subst hv
          have d1 : decide ((x : Int) < (y : Int)) = false := by simp; omega
          have d2 : decide ((x : Int) > (y : Int)) = true := by simp; omega
          go_wp2_with fail
          go_region
          go_wp2_with fail
          go_region
          go_wp2_with fail
          go_ret
          exact ⟨rfl, below_dr (below_dr HBE.out)⟩
  · have hv := C2.out (HL2.out h)
    subst hv
    have h1 : ¬ (l.length : Int) = r.length := by omega
    have h2 : ¬ (l.length : Int) < r.length := by omega
    have h3 : ((l.length : Int) == r.length) = false := by simpa using h1
    clear h
    go_enter Tryz.func77, Tryz.ntmps77
    go_wp2_with fail
    go_ret
    exact ⟨rfl, Below.refl _ _⟩
end Go.Proofs.YtoonneminimbfaaGreatDoor
