/- Plain laws: what Invert tells leads back. -/
import Derived.Test.YtfflfbnnohlipaaLawKeeps
namespace Go.Proofs.Ytfflfbnnohlipaa
set_option linter.unusedVariables false
set_option linter.unusedSimpArgs false

/-- How far the end moves. -/
def dV : List Spl → Int
  | [] => 0
  | x :: r => (x.text.size : Int) - (x.to - x.frm) + dV r

theorem dV_append (a b : List Spl) : dV (a ++ b) = dV a + dV b := by
  induction a with
  | nil => simp [dV]
  | cons x a ih => simp only [List.cons_append, dV, ih]; omega

def invertFrom (text : ByteArray) : Int → List Spl → List Spl
  | _, [] => []
  | d, x :: r => ⟨x.frm + d, x.frm + d + (x.text.size : Int), text.extract x.frm.toNat x.to.toNat⟩ :: invertFrom text (d + ((x.text.size : Int) - (x.to - x.frm))) r

theorem invert_len (text : ByteArray) : ∀ (l : List Spl) (d : Int), (invertFrom text d l).length = l.length := by
  intro l
  induction l with
  | nil => intro d; rfl
  | cons x l ih => intro d; simp [invertFrom, ih]

theorem invert_append (text : ByteArray) : ∀ (a b : List Spl) (d : Int), invertFrom text d (a ++ b) = invertFrom text d a ++ invertFrom text (d + dV a) b := by
  intro a
  induction a with
  | nil => intro b d; simp [invertFrom, dV]
  | cons x a ih =>
    intro b d
    simp only [List.cons_append, invertFrom, ih, dV]
    rw [show d + ((x.text.size : Int) - (x.to - x.frm)) + dV a = d + ((x.text.size : Int) - (x.to - x.frm) + dV a) by omega]

/-- Ahead of a splice that is in order all others end. -/
theorem shift_dV {n : Int} : ∀ (l : List Spl) (u : Int), fitsFrom n u l = true → shiftV l n = dV l := by
  intro l
  induction l with
  | nil => intro u _; rfl
  | cons x l ih =>
    intro u hf
    rw [fitsFrom] at hf
    split at hf
    · cases hf
    · simp only [shiftV, dV, ih _ hf]
      rw [if_pos (by omega)]

theorem fits_upto {n : Int} : ∀ (l : List Spl) (u : Int) (k : Nat) (x : Spl), fitsFrom n u l = true → l[k]? = some x → fitsFrom x.frm u (l.take k) = true := by
  intro l
  induction l with
  | nil => intro u k x _ hx; simp at hx
  | cons y l ih =>
    intro u k x hf hx
    cases k with
    | zero => simp [fitsFrom]
    | succ k =>
      simp at hx
      have hg := fits_get (n := n) l y.to k x
      rw [fitsFrom] at hf
      split at hf
      · cases hf
      · rename_i hno
        have h1 := hg hf hx
        rw [List.take_succ_cons, fitsFrom, if_neg (by omega)]
        exact ih _ _ _ hf hx

/-- The numbers that a round of Invert meets. -/
theorem invert_step {n : Int} {l : List Spl} {k : Nat} {x : Spl} (hf : fitsFrom n 0 l = true) (hs : Small l) (hl : l.length ≤ 30) (hx : l[k]? = some x) :
    dV (l.take (k + 1)) = dV (l.take k) + ((x.text.size : Int) - (x.to - x.frm)) ∧ 0 ≤ x.frm + dV (l.take k) ∧ dV (l.take k) ≤ 9000 ∧ dV (l.take (k + 1)) ≤ 9000 ∧ -n ≤ dV (l.take (k + 1)) ∧
      0 ≤ x.frm ∧ x.frm ≤ x.to ∧ x.to ≤ n ∧ x.text.size ≤ 300 := by
  have hst := take_snoc hx
  have hu := fits_upto l 0 k x hf hx
  have a := shift_bd (p := x.frm) (l.take k) 0 hu (fun y hy => hs y (List.mem_of_mem_take hy))
  rw [shift_dV _ _ hu] at a
  have hf2 := fits_take l 0 (k + 1) hf
  have b := shift_bd (p := n) (l.take (k + 1)) 0 hf2 (fun y hy => hs y (List.mem_of_mem_take hy))
  rw [shift_dV _ _ hf2] at b
  have c := fits_get l 0 k x hf hx
  have l1 : (l.take k).length ≤ 30 := by rw [List.length_take]; omega
  have l2 : (l.take (k + 1)).length ≤ 30 := by rw [List.length_take]; omega
  refine ⟨?_, by omega, by omega, by omega, by omega, c.1, c.2.1, c.2.2, hs x (List.mem_of_getElem? hx)⟩
  rw [hst, dV_append]
  simp [dV]

theorem back_is (text s : ByteArray) : ∀ (l : List Spl) (p q : Nat), fitsFrom text.size p l = true → p ≤ text.size → q ≤ s.size → s.data.toList.drop q = joinV (piecesFrom text p l) →
    fitsFrom s.size q (invertFrom text ((q : Int) - p) l) = true ∧ joinV (piecesFrom s q (invertFrom text ((q : Int) - p) l)) = text.data.toList.drop p := by
  intro l
  induction l with
  | nil =>
    intro p q _ hp hq hs
    refine ⟨by simp [invertFrom, fitsFrom], ?_⟩
    simp only [invertFrom, piecesFrom, join_cons] at hs ⊢
    rw [extract_list _ _ _ (Nat.le_refl _), hs, extract_list _ _ _ (Nat.le_refl _)]
    simp only [joinV, List.flatMap_nil, List.append_nil]
    rw [List.take_of_length_le, List.take_of_length_le (by simp [size_list])]
    have h1 : (s.data.toList.drop q).length = s.size - q := by rw [List.length_drop, size_list]
    rw [← h1, hs, extract_list _ _ _ (Nat.le_refl _)]
    simp [joinV]
  | cons x l ih =>
    intro p q hf hp hq hs
    rw [fitsFrom] at hf
    split at hf
    · cases hf
    rename_i hno
    obtain ⟨f, hfe⟩ := Int.eq_ofNat_of_zero_le (show 0 ≤ x.frm by omega)
    obtain ⟨t, hte⟩ := Int.eq_ofNat_of_zero_le (show 0 ≤ x.to by omega)
    have ht : x.to.toNat = t := by omega
    have hfn : x.frm.toNat = f := by omega
    have hft : f ≤ t := by omega
    have htn : t ≤ text.size := by omega
    have hpf : p ≤ f := by omega
    simp only [piecesFrom, join_cons, ht, hfn] at hs
    rw [extract_list _ _ _ (by omega)] at hs
    have hlen := congrArg List.length hs
    simp only [List.length_drop, List.length_append, List.length_take, size_list] at hlen
    have hmin : min (f - p) (text.size - p) = f - p := by omega
    rw [hmin] at hlen
    have htk : (s.data.toList.drop q).take (f - p) = (text.data.toList.drop p).take (f - p) := by
      rw [hs, List.take_append_of_le_length (by simp [size_list]; omega), List.take_take]
      simp
    have hdr : s.data.toList.drop (q + (f - p) + x.text.size) = joinV (piecesFrom text t l) := by
      rw [show q + (f - p) + x.text.size = q + ((f - p) + x.text.size) by omega, ← List.drop_drop, hs, ← List.append_assoc, List.drop_append]
      rw [List.drop_eq_nil_of_le (by simp [size_list]; omega)]
      have e : (f - p) + x.text.size - ((text.data.toList.drop p).take (f - p) ++ x.text.data.toList).length = 0 := by simp [size_list]; omega
      rw [e]
      simp
    obtain ⟨i1, i2⟩ := ih t (q + (f - p) + x.text.size) (by rw [← hte]; exact hf) htn (by omega) hdr
    have hd : (q : Int) - p + ((x.text.size : Int) - (x.to - x.frm)) = ((q + (f - p) + x.text.size : Nat) : Int) - t := by omega
    have hq1 : x.frm + ((q : Int) - p) = ((q + (f - p) : Nat) : Int) := by omega
    have hq2 : x.frm + ((q : Int) - p) + (x.text.size : Int) = ((q + (f - p) + x.text.size : Nat) : Int) := by omega
    simp only [invertFrom]
    rw [hd, fitsFrom, hq2, hq1]
    dsimp only
    rw [if_neg (by omega)]
    refine ⟨i1, ?_⟩
    simp only [piecesFrom, join_cons, Int.toNat_natCast]
    rw [i2, extract_list _ _ _ (by omega), show q + (f - p) - q = f - p by omega, htk, ht, hfn, extract_list _ _ _ htn]
    rw [← List.append_assoc]
    have e1 : (text.data.toList.drop p).take (f - p) ++ (text.data.toList.drop f).take (t - f) = (text.data.toList.drop p).take (t - p) := by
      rw [show t - p = (f - p) + (t - f) by omega, List.take_add, List.drop_drop, show p + (f - p) = f by omega]
    rw [e1]
    have e2 := List.take_append_drop (t - p) (text.data.toList.drop p)
    rw [List.drop_drop, show p + (t - p) = t by omega] at e2
    exact e2

def invertV (text : ByteArray) (l : List Spl) : List Spl := invertFrom text 0 l

theorem bytes_eq {a b : ByteArray} (h : a.data.toList = b.data.toList) : a = b := by
  cases a; cases b; simp only [ByteArray.mk.injEq]; exact Array.toList_inj.1 h

/-- What Invert tells fits what Apply makes, and leads back. -/
theorem back_all {text : ByteArray} {l : List Spl} (he : applyE text l = 0) (ht : text.size ≤ 65536) :
    applyE (applyB text l) (invertV text l) = 0 ∧ applyB (applyB text l) (invertV text l) = text ∧ totalV (piecesFrom (applyB text l) 0 (invertV text l)) ≤ 65536 := by
  have hf : fitsFrom text.size 0 l = true := by
    unfold applyE at he
    split at he
    · assumption
    · cases he
  have hB : (applyB text l).data.toList = joinV (piecesFrom text 0 l) := by simp [applyB, he]
  obtain ⟨h1, h2⟩ := back_is text (applyB text l) l 0 0 hf (Nat.zero_le _) (Nat.zero_le _) (by simpa using hB)
  simp only [Int.ofNat_zero, Int.sub_self, List.drop_zero, Int.natCast_zero] at h1 h2
  have h3 : totalV (piecesFrom (applyB text l) 0 (invertV text l)) = text.size := by
    rw [← join_len, invertV, h2, size_list]
  have h4 : applyE (applyB text l) (invertV text l) = 0 := by
    unfold applyE
    rw [if_pos (by exact h1), if_pos (by omega)]
  refine ⟨h4, ?_, by omega⟩
  apply bytes_eq
  have h5 : applyB (applyB text l) (invertV text l) = ⟨(joinV (piecesFrom (applyB text l) 0 (invertV text l))).toArray⟩ := by
    rw [applyB, if_pos h4]
  rw [h5]
  exact h2

end Go.Proofs.Ytfflfbnnohlipaa
