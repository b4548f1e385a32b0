/- Plain laws: where a kept byte stands in what splices make of a text. -/
import Derived.Test.YtfflfbnnohlipaaBytes
import Derived.Test.YtfflfbnnohlipaaMoved
namespace Go.Proofs.Ytfflfbnnohlipaa
set_option linter.unusedVariables false
set_option linter.unusedSimpArgs false

/-- How many bytes of those from a on, b of them, are kept. -/
def cntK (l : List Spl) (a : Nat) : Nat → Nat
  | 0 => 0
  | b + 1 => cntK l a b + (if keptV l ((a + b : Nat) : Int) then 1 else 0)

/-- How many bytes the Texts have that stand ahead of p. -/
def addV : List Spl → Int → Nat
  | [], _ => 0
  | x :: r, p => (if x.to ≤ p then x.text.size else 0) + addV r p

theorem addV_mono (l : List Spl) {p q : Int} (h : p ≤ q) : addV l p ≤ addV l q := by
  induction l with
  | nil => simp [addV]
  | cons x l ih => simp only [addV]; split <;> split <;> omega

theorem cnt_add (l : List Spl) (a b c : Nat) : cntK l a (b + c) = cntK l a b + cntK l (a + b) c := by
  induction c with
  | zero => simp [cntK]
  | succ c ih =>
    rw [← Nat.add_assoc]
    simp only [cntK]
    rw [ih, show a + (b + c) = a + b + c by omega]
    omega

theorem cnt_all {l : List Spl} {a b : Nat} (h : ∀ p, a ≤ p → p < a + b → keptV l (p : Int) = true) : cntK l a b = b := by
  induction b with
  | zero => rfl
  | succ b ih =>
    simp only [cntK]
    rw [ih (fun p h1 h2 => h p h1 (by omega)), h (a + b) (by omega) (by omega)]
    rfl
theorem cnt_none {l : List Spl} {a b : Nat} (h : ∀ p, a ≤ p → p < a + b → keptV l (p : Int) = false) : cntK l a b = 0 := by
  induction b with
  | zero => rfl
  | succ b ih =>
    simp only [cntK]
    rw [ih (fun p h1 h2 => h p h1 (by omega)), h (a + b) (by omega) (by omega)]
    rfl
theorem cnt_congr {l m : List Spl} {a b : Nat} (h : ∀ p, a ≤ p → p < a + b → keptV l (p : Int) = keptV m (p : Int)) : cntK l a b = cntK m a b := by
  induction b with
  | zero => rfl
  | succ b ih =>
    simp only [cntK]
    rw [ih (fun p h1 h2 => h p h1 (by omega)), h (a + b) (by omega) (by omega)]

theorem kept_cons (x : Spl) (l : List Spl) (p : Int) : keptV (x :: l) p = (!(decide (x.frm ≤ p) && decide (p < x.to)) && keptV l p) := by simp [keptV]

/-- Ahead of all splices nothing moves, and all is kept. -/
theorem ahead_of {n : Int} : ∀ (l : List Spl) (was p : Int), fitsFrom n was l = true → p < was → shiftV l p = 0 ∧ addV l p = 0 ∧ keptV l p = true := by
  intro l
  induction l with
  | nil => intro was p _ _; simp [shiftV, addV, keptV]
  | cons x l ih =>
    intro was p hf hp
    rw [fitsFrom] at hf
    split at hf
    · cases hf
    · obtain ⟨h1, h2, h3⟩ := ih _ p hf (by omega)
      refine ⟨?_, ?_, ?_⟩
      · simp only [shiftV, h1]; split <;> omega
      · simp only [addV, h2]; split <;> omega
      · rw [kept_cons, h3]
        have : ¬ x.frm ≤ p := by omega
        simp [this]

/-- Where a kept byte stands: as many bytes behind the beginning as are kept ahead of it, and as the Texts have that stand ahead of it. -/
theorem place_is {n : Int} : ∀ (l : List Spl) (was p : Nat), fitsFrom n was l = true → was ≤ p → keptV l (p : Int) = true →
    (p : Int) - was + shiftV l p = cntK l was (p - was) + addV l p := by
  intro l
  induction l with
  | nil =>
    intro was p _ hp _
    have : cntK [] was (p - was) = p - was := cnt_all fun _ _ _ => rfl
    simp only [shiftV, addV, this]
    omega
  | cons x l ih =>
    intro was p hf hp hk
    rw [fitsFrom] at hf
    split at hf
    · cases hf
    rename_i hno
    rw [kept_cons] at hk
    simp only [Bool.and_eq_true] at hk
    obtain ⟨hk1, hk2⟩ := hk
    obtain ⟨f, hfe⟩ := Int.eq_ofNat_of_zero_le (show 0 ≤ x.frm by omega)
    obtain ⟨t, hte⟩ := Int.eq_ofNat_of_zero_le (show 0 ≤ x.to by omega)
    by_cases hlt : p < f
    · obtain ⟨h1, h2, h3⟩ := ahead_of l x.to p hf (by omega)
      have hc : cntK (x :: l) was (p - was) = p - was := cnt_all fun q h4 h5 => by
        rw [kept_cons, (ahead_of l x.to q hf (by omega)).2.2]
        have : ¬ x.frm ≤ (q : Int) := by omega
        simp [this]
      simp only [shiftV, addV, h1, h2, hc]
      rw [if_neg (by omega), if_neg (by omega)]
      omega
    · have hge : t ≤ p := by
        simp only [Bool.not_eq_true', Bool.and_eq_false_iff, decide_eq_false_iff_not] at hk1
        omega
      have hih := ih t p (by rw [← hte]; exact hf) hge hk2
      have e1 : cntK (x :: l) was (f - was) = f - was := cnt_all fun q h4 h5 => by
        rw [kept_cons, (ahead_of l x.to q hf (by omega)).2.2]
        have : ¬ x.frm ≤ (q : Int) := by omega
        simp [this]
      have e2 : cntK (x :: l) f (t - f) = 0 := cnt_none fun q h4 h5 => by
        rw [kept_cons]
        have a1 : x.frm ≤ (q : Int) := by omega
        have a2 : (q : Int) < x.to := by omega
        simp [a1, a2]
      have e3 : cntK (x :: l) t (p - t) = cntK l t (p - t) := cnt_congr fun q h4 h5 => by
        rw [kept_cons]
        have a2 : ¬ (q : Int) < x.to := by omega
        simp [a2]
      have hsplit : cntK (x :: l) was (p - was) = cntK (x :: l) was (f - was) + (cntK (x :: l) f (t - f) + cntK (x :: l) t (p - t)) := by
        have s1 := cnt_add (x :: l) was (f - was) (p - f)
        rw [show f - was + (p - f) = p - was by omega, show was + (f - was) = f by omega] at s1
        have s2 := cnt_add (x :: l) f (t - f) (p - t)
        rw [show t - f + (p - t) = p - f by omega, show f + (t - f) = t by omega] at s2
        omega
      simp only [shiftV, addV]
      rw [if_pos (by omega), if_pos (by omega), hsplit, e1, e2, e3]
      omega

theorem join_cons (s : ByteArray) (L : List ByteArray) : joinV (s :: L) = s.data.toList ++ joinV L := by simp [joinV]

theorem extract_list (t : ByteArray) (a b : Nat) (h : b ≤ t.size) : (t.extract a b).data.toList = (t.data.toList.drop a).take (b - a) := by
  rw [ByteArray.data_extract, Array.toList_extract, List.extract_eq_take_drop]

/-- How long what splices make of a text is, and that a kept byte is the same byte where it stands then. -/
theorem made_is (text : ByteArray) : ∀ (l : List Spl) (was : Nat), fitsFrom text.size was l = true → was ≤ text.size →
    ((joinV (piecesFrom text was l)).length : Int) = (text.size : Int) - was + shiftV l text.size ∧
    ∀ p : Nat, was ≤ p → p < text.size → keptV l (p : Int) = true → ∃ q : Nat, (q : Int) = (p : Int) - was + shiftV l p ∧ q < (joinV (piecesFrom text was l)).length ∧ (joinV (piecesFrom text was l))[q]? = text.data.toList[p]? := by
  intro l
  induction l with
  | nil =>
    intro was _ hw
    have hj : joinV (piecesFrom text was []) = text.data.toList.drop was := by
      simp only [piecesFrom, join_cons]
      rw [extract_list _ _ _ (Nat.le_refl _)]
      simp only [joinV, List.flatMap_nil, List.append_nil]
      rw [List.take_of_length_le (by simp [size_list])]
    rw [hj]
    have hlen : (text.data.toList.drop was).length = text.size - was := by rw [List.length_drop, size_list]
    refine ⟨by rw [hlen]; simp only [shiftV]; omega, fun p hp hlt _ => ⟨p - was, by simp only [shiftV]; omega, by rw [hlen]; omega, ?_⟩⟩
    rw [List.getElem?_drop, show was + (p - was) = p by omega]
  | cons x l ih =>
    intro was hf hw
    rw [fitsFrom] at hf
    split at hf
    · cases hf
    rename_i hno
    obtain ⟨f, hfe⟩ := Int.eq_ofNat_of_zero_le (show 0 ≤ x.frm by omega)
    obtain ⟨t, hte⟩ := Int.eq_ofNat_of_zero_le (show 0 ≤ x.to by omega)
    have ht : x.to.toNat = t := by omega
    have hfn : x.frm.toNat = f := by omega
    obtain ⟨i1, i2⟩ := ih t (by rw [← hte]; exact hf) (by omega)
    have hj : joinV (piecesFrom text was (x :: l)) = (text.data.toList.drop was).take (f - was) ++ (x.text.data.toList ++ joinV (piecesFrom text t l)) := by
      simp only [piecesFrom, join_cons, ht, hfn]
      rw [extract_list _ _ _ (by omega)]
    have h1 : ((text.data.toList.drop was).take (f - was)).length = f - was := by
      rw [List.length_take, List.length_drop, size_list]; omega
    rw [hj]
    refine ⟨?_, ?_⟩
    · simp only [List.length_append, h1, size_list, shiftV]
      rw [if_pos (by omega)]
      omega
    · intro p hp hlt hk
      rw [kept_cons] at hk
      simp only [Bool.and_eq_true] at hk
      obtain ⟨hk1, hk2⟩ := hk
      by_cases hpf : p < f
      · obtain ⟨s1, _, _⟩ := ahead_of l x.to p hf (by omega)
        refine ⟨p - was, ?_, ?_, ?_⟩
        · simp only [shiftV, s1]; rw [if_neg (by omega)]; omega
        · simp only [List.length_append, h1]; omega
        · rw [List.getElem?_append_left (by omega), List.getElem?_take, if_pos (by omega), List.getElem?_drop, show was + (p - was) = p by omega]
      · have hge : t ≤ p := by
          simp only [Bool.not_eq_true', Bool.and_eq_false_iff, decide_eq_false_iff_not] at hk1
          omega
        obtain ⟨q, q1, q2, q3⟩ := i2 p hge hlt hk2
        refine ⟨f - was + x.text.size + q, ?_, ?_, ?_⟩
        · simp only [shiftV]; rw [if_pos (by omega)]; omega
        · simp only [List.length_append, h1, size_list]; omega
        · rw [List.getElem?_append_right (by omega), List.getElem?_append_right (by rw [h1, size_list]; omega), h1, size_list, show f - was + x.text.size + q - (f - was) - x.text.size = q by omega]
          exact q3

end Go.Proofs.Ytfflfbnnohlipaa
