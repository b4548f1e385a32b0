/- emendref01.trim. -/
import Derived.Test.YtoonneminimbfaaGreatDoorOf
namespace Go.Proofs.YtoonneminimbfaaGreatDoor
open Go.RowKit
set_option linter.unusedVariables false
set_option linter.unusedSimpArgs false

theorem row_uc {w : World} {B : Nat} {A : Option Addr} {l : List Nat} {k x : Nat} (h : RowOf uc 1 w B A l) (hx : l[k]? = some x) :
    ∃ b off, A = some ⟨b, off, none⟩ ∧ b < B ∧ w.cell? ⟨b, off + k, none⟩ = some (.int .u64 x) := by
  have hlt : k < l.length := by
    rcases Nat.lt_or_ge k l.length with h | h
    · exact h
    · rw [List.getElem?_eq_none h] at hx; cases hx
  obtain ⟨b, off, e, hb, hc⟩ := h (by omega)
  have := hc k x hx 0 _ rfl
  exact ⟨b, off, e, hb, by simpa using this⟩

set_option maxRecDepth 100000 in
set_option maxHeartbeats 1600000 in
theorem trim_any (A : Option Addr) (c : Nat) (l : List Nat) (w : World) (hl : l.length ≤ 1000000) (hlc : l.length ≤ c) (hr : RowOf uc 1 w w.heap.size A l) :
    Calls Tryz.prog 87 #[.slice A l.length c] w fun e w' => (∃ k, k ≤ l.length ∧ e = .returned (.slice A k c) ∧ (∀ x, l[k - 1]? = some x → 0 < k → x ≠ 0) ∧ (∀ i x, k ≤ i → l[i]? = some x → x = 0)) ∧ w = w' := by
  have HR := Lib.hid hr
  go_enter Tryz.func87, Tryz.ntmps87
  go_wp2_with fail
  go_loop [0] (fun v => ∃ (k : Nat), k ≤ l.length ∧ v = .slice A k c ∧ (∀ i x, k ≤ i → l[i]? = some x → x = 0)) (fun v => match v with | .slice _ k _ => k | _ => 0)
  case atStart => exact ⟨l.length, Nat.le_refl _, rfl, fun i x hi hx => by rw [List.getElem?_eq_none hi] at hx; cases hx⟩
  case round =>
    obtain ⟨k, hk, rfl, hz⟩ := hrel
    have HZ := Lib.hid hz
    clear hz hr
    by_cases h0 : k = 0
    · subst h0
      go_wp2_with fail
      go_ret
      exact ⟨⟨0, Nat.zero_le _, rfl, fun x _ h => by omega, HZ.out⟩, rfl⟩
    · obtain ⟨p, rfl⟩ : ∃ p, k = p + 1 := ⟨k - 1, by omega⟩
      obtain ⟨x, hx⟩ := get_some (show p < l.length by omega)
      obtain ⟨b, off, rfl, hbl, hc⟩ := row_uc HR.out hx
      have HX := Lib.hid hx
      have e1 : (((p + 1 : Nat) : Int)) - 1 = (p : Int) := by omega
      have e2 : ((p + 1 : Nat) : Int) > 0 := by omega
      clear hx
      by_cases hx0 : x = 0
      · have hx1 : ((x : Int) == 0) = true := by simp [hx0]
        go_wp2_with fail
        refine ⟨⟨p, by omega, rfl, fun i y hi hy => ?_⟩, by simp⟩
        rcases Nat.lt_or_ge p i with h | h
        · exact HZ.out i y h hy
        · obtain rfl : i = p := by omega
          rw [HX.out] at hy; cases hy; exact hx0
      · have hx1 : ((x : Int) == 0) = false := by simp [hx0]
        go_wp2_with fail
        go_ret
        exact ⟨⟨p + 1, hk, rfl, fun y hy _ => by rw [show p + 1 - 1 = p by omega, HX.out] at hy; cases hy; exact hx0, HZ.out⟩, rfl⟩

/-! ### What rows of digits are worth -/
def vl : List Nat → Nat
  | [] => 0
  | d :: r => d + 65536 * vl r
theorem vl_dg16 (n : Nat) : vl (dg16 n) = n := by
  induction n using Nat.strongRecOn with
  | _ n ih =>
    by_cases h : n = 0
    · subst h; rw [dg16_zero]; rfl
    · rw [dg16_pos h, vl, ih (n / 65536) (by omega)]; omega
theorem vl_append (a b : List Nat) : vl (a ++ b) = vl a + 65536 ^ a.length * vl b := by
  induction a with
  | nil => simp [vl]
  | cons x a ih =>
    rw [List.cons_append, vl, ih, vl, List.length_cons, Nat.pow_succ, Nat.mul_add, Nat.mul_comm (65536 ^ a.length) 65536, Nat.mul_assoc]
    omega
theorem vl_snoc (a : List Nat) (d : Nat) : vl (a ++ [d]) = vl a + 65536 ^ a.length * d := by rw [vl_append]; simp [vl]
theorem vl_take {l : List Nat} {k x : Nat} (hx : l[k]? = some x) : vl (l.take (k + 1)) = vl (l.take k) + 65536 ^ k * x := by
  have hlt : k < l.length := by
    rcases Nat.lt_or_ge k l.length with h | h
    · exact h
    · rw [List.getElem?_eq_none h] at hx; cases hx
  rw [take_snoc hx, vl_snoc, List.length_take, Nat.min_eq_left (by omega)]
theorem vl_zeros (l : List Nat) (h : ∀ x ∈ l, x = 0) : vl l = 0 := by
  induction l with
  | nil => rfl
  | cons x l ih => rw [vl, h x (List.mem_cons_self ..), ih (fun y hy => h y (List.mem_cons_of_mem _ hy))]
theorem vl_cut {l : List Nat} {k : Nat} (h : ∀ i x, k ≤ i → l[i]? = some x → x = 0) : vl (l.take k) = vl l := by
  conv => rhs; rw [← List.take_append_drop k l]
  rw [vl_append, vl_zeros (l.drop k), Nat.mul_zero, Nat.add_zero]
  intro x hx
  obtain ⟨i, hi⟩ := List.getElem?_of_mem hx
  rw [List.getElem?_drop] at hi
  exact h (k + i) x (by omega) hi
theorem vl_set {l : List Nat} {k x : Nat} (d : Nat) (hx : l[k]? = some x) : vl (l.set k d) + 65536 ^ k * x = vl l + 65536 ^ k * d := by
  induction l generalizing k with
  | nil => simp at hx
  | cons y l ih =>
    cases k with
    | zero => simp at hx; subst hx; simp [vl]; omega
    | succ k =>
      simp at hx
      have := ih hx
      rw [List.set_cons_succ, vl, vl, Nat.pow_succ, Nat.mul_comm (65536 ^ k) 65536, Nat.mul_assoc, Nat.mul_assoc]
      omega
/-- A row of digits whose last one is not 0 is the number's own. -/
theorem dg16_vl (l : List Nat) (h1 : ∀ x ∈ l, x < 65536) (h2 : ∀ x, l[l.length - 1]? = some x → x ≠ 0) : dg16 (vl l) = l := by
  induction l with
  | nil => rw [vl, dg16_zero]
  | cons x l ih =>
    have hx := h1 x (List.mem_cons_self ..)
    have h3 : ∀ y, l[l.length - 1]? = some y → y ≠ 0 := by
      intro y hy
      refine h2 y ?_
      cases l with
      | nil => simp at hy
      | cons z l => simpa using hy
    have hi := ih (fun y hy => h1 y (List.mem_cons_of_mem _ hy)) h3
    have hne : vl (x :: l) ≠ 0 := by
      intro e
      rw [vl] at e
      have e0 : x = 0 := by omega
      have e1 : vl l = 0 := by omega
      rw [e1, dg16_zero] at hi
      subst hi
      exact h2 x (by simp) e0
    rw [dg16_pos hne]
    have e1 : vl (x :: l) % 65536 = x := by rw [vl]; omega
    have e2 : vl (x :: l) / 65536 = vl l := by rw [vl]; omega
    rw [e1, e2, hi]
end Go.Proofs.YtoonneminimbfaaGreatDoor
