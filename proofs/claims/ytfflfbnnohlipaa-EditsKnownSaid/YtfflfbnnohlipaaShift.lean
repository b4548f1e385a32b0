/- Plain laws of splices that fit: how far a byte moves. -/
import Derived.Test.YtfflfbnnohlipaaKept
namespace Go.Proofs.Ytfflfbnnohlipaa

def maxTo : List Spl → Int → Int
  | [], n => n
  | x :: r, n => maxTo r (if n < x.to then x.to else n)

/-- How far what stands at p moves. -/
def shiftV : List Spl → Int → Int
  | [], _ => 0
  | x :: r, p => (if x.to ≤ p then (x.text.size : Int) - (x.to - x.frm) else 0) + shiftV r p

theorem shiftV_append (a b : List Spl) (p : Int) : shiftV (a ++ b) p = shiftV a p + shiftV b p := by
  induction a with
  | nil => simp [shiftV]
  | cons x a ih => simp only [List.cons_append, shiftV, ih]; omega

theorem fits_take {n : Int} : ∀ (l : List Spl) (was : Int) (k : Nat), fitsFrom n was l = true → fitsFrom n was (l.take k) = true := by
  intro l
  induction l with
  | nil => intro was k h; simp [fitsFrom]
  | cons x l ih =>
    intro was k h
    cases k with
    | zero => simp [fitsFrom]
    | succ k =>
      rw [fitsFrom] at h
      split at h
      · cases h
      · rename_i hn
        rw [List.take_succ_cons, fitsFrom, if_neg hn]
        exact ih _ _ h

/-- Of splices that fit, each begins at 0 or later, ends where it begins or later, and no later than n. -/
theorem fits_get {n : Int} : ∀ (l : List Spl) (was : Int) (k : Nat) (x : Spl), fitsFrom n was l = true → l[k]? = some x → was ≤ x.frm ∧ x.frm ≤ x.to ∧ x.to ≤ n := by
  intro l
  induction l with
  | nil => intro was k x h hx; simp at hx
  | cons y l ih =>
    intro was k x h hx
    rw [fitsFrom] at h
    split at h
    · cases h
    · rename_i hn
      cases k with
      | zero => simp at hx; subst hx; omega
      | succ k =>
        simp at hx
        have := ih _ _ _ h hx
        omega

def Small (l : List Spl) : Prop := ∀ x ∈ l, x.text.size ≤ 300

theorem shift_bd {n p : Int} : ∀ (l : List Spl) (was : Int), fitsFrom n was l = true → Small l → -(max 0 (p - was)) ≤ shiftV l p ∧ shiftV l p ≤ 300 * (l.length : Int) := by
  intro l
  induction l with
  | nil => intro was h hs; simp [shiftV]; omega
  | cons x l ih =>
    intro was h hs
    rw [fitsFrom] at h
    split at h
    · cases h
    · rename_i hn
      have h1 := ih _ h (fun y hy => hs y (List.mem_cons_of_mem _ hy))
      have h2 := hs x (List.mem_cons_self ..)
      simp only [shiftV, List.length_cons]
      split <;> constructor <;> omega

/-- The numbers that a round of Moved meets. -/
theorem shift_step {n p : Int} {l : List Spl} {k : Nat} {x : Spl} (hf : fitsFrom n 0 l = true) (hs : Small l) (hl : l.length ≤ 30) (hp : 0 ≤ p) (hx : l[k]? = some x) :
    shiftV (l.take (k + 1)) p = shiftV (l.take k) p + (if x.to ≤ p then (x.text.size : Int) - (x.to - x.frm) else 0) ∧ 0 ≤ p + shiftV (l.take k) p ∧ shiftV (l.take k) p ≤ 9000 ∧
      0 ≤ p + shiftV (l.take (k + 1)) p ∧ shiftV (l.take (k + 1)) p ≤ 9000 ∧ 0 ≤ x.frm ∧ x.frm ≤ x.to ∧ x.text.size ≤ 300 := by
  have hst := take_snoc hx
  have a := shift_bd (p := p) (l.take k) 0 (fits_take l 0 k hf) (fun y hy => hs y (List.mem_of_mem_take hy))
  have b := shift_bd (p := p) (l.take (k + 1)) 0 (fits_take l 0 (k + 1) hf) (fun y hy => hs y (List.mem_of_mem_take hy))
  have c := fits_get l 0 k x hf hx
  have l1 : (l.take k).length ≤ 30 := by rw [List.length_take]; omega
  have l2 : (l.take (k + 1)).length ≤ 30 := by rw [List.length_take]; omega
  refine ⟨?_, by omega, by omega, by omega, by omega, c.1, c.2.1, hs x (List.mem_of_getElem? hx)⟩
  rw [hst, shiftV_append]
  simp [shiftV]

theorem maxTo_ge : ∀ (l : List Spl) (u : Int), u ≤ maxTo l u := by
  intro l
  induction l with
  | nil => intro u; simp [maxTo]
  | cons x l ih => intro u; simp only [maxTo]; have := ih (if u < x.to then x.to else u); split at this <;> (split <;> omega)

theorem fits_more {n m : Int} (h : n ≤ m) : ∀ (l : List Spl) (u : Int), fitsFrom n u l = true → fitsFrom m u l = true := by
  intro l
  induction l with
  | nil => intro u _; simp [fitsFrom]
  | cons x l ih =>
    intro u hf
    rw [fitsFrom] at hf ⊢
    split at hf
    · cases hf
    · rw [if_neg (by omega)]; exact ih _ hf

theorem maxTo_le {n : Int} : ∀ (l : List Spl) (u : Int), fitsFrom n u l = true → u ≤ n → maxTo l u ≤ n := by
  intro l
  induction l with
  | nil => intro u _ hu; simpa [maxTo] using hu
  | cons x l ih =>
    intro u hf hu
    rw [fitsFrom] at hf
    split at hf
    · cases hf
    · simp only [maxTo]
      rw [show (if u < x.to then x.to else u) = x.to by split <;> omega]
      exact ih _ hf (by omega)

/-- In order, the greatest end is the last one's. -/
theorem maxTo_last {n : Int} : ∀ (l : List Spl) (u : Int), fitsFrom n u l = true → maxTo l u = (l.getLast?.map Spl.to).getD u := by
  intro l
  induction l with
  | nil => intro u _; simp [maxTo]
  | cons x l ih =>
    intro u hf
    rw [fitsFrom] at hf
    split at hf
    · cases hf
    · simp only [maxTo]
      rw [show (if u < x.to then x.to else u) = x.to by split <;> omega, ih _ hf]
      cases l with
      | nil => simp
      | cons y r => simp [List.getLast?_eq_some_getLast]

end Go.Proofs.Ytfflfbnnohlipaa
