/- Plain law: byte by byte, what splices make of a text is what stands in the pieces. -/
import Derived.Test.YtfflfbnnohlipaaPlace
namespace Go.Proofs.Ytfflfbnnohlipaa
set_option linter.unusedVariables false
set_option linter.unusedSimpArgs false

def textsAt (l : List Spl) (p : Nat) : List UInt8 := l.flatMap fun x => if x.frm = (p : Int) then x.text.data.toList else []
def byteAt (text : ByteArray) (l : List Spl) (p : Nat) : List UInt8 := if keptV l (p : Int) = true then (text.data.toList.drop p).take 1 else []
def spellAt (text : ByteArray) (l : List Spl) (p : Nat) : List UInt8 := textsAt l p ++ byteAt text l p
def spell (text : ByteArray) (l : List Spl) (p c : Nat) : List UInt8 := (List.range' p c).flatMap (spellAt text l)

theorem spell_zero (text : ByteArray) (l : List Spl) (p : Nat) : spell text l p 0 = [] := rfl
theorem spell_front (text : ByteArray) (l : List Spl) (p c : Nat) : spell text l p (c + 1) = spellAt text l p ++ spell text l (p + 1) c := by
  simp [spell, List.range'_succ]
theorem spell_back (text : ByteArray) (l : List Spl) (p c : Nat) : spell text l p (c + 1) = spell text l p c ++ spellAt text l (p + c) := by
  simp [spell, List.range'_1_concat]
theorem spell_add (text : ByteArray) (l : List Spl) (p a b : Nat) : spell text l p (a + b) = spell text l p a ++ spell text l (p + a) b := by
  simp [spell, ← List.range'_append_1, List.flatMap_append]

theorem spell_congr {text : ByteArray} {l m : List Spl} : ∀ (c a : Nat), (∀ p, a ≤ p → p < a + c → spellAt text l p = spellAt text m p) → spell text l a c = spell text m a c := by
  intro c
  induction c with
  | zero => intro a _; rfl
  | succ c ih =>
    intro a h
    rw [spell_front, spell_front, h a (Nat.le_refl _) (by omega), ih (a + 1) fun p h1 h2 => h p (by omega) (by omega)]
theorem spell_none {text : ByteArray} {l : List Spl} : ∀ (c a : Nat), (∀ p, a ≤ p → p < a + c → spellAt text l p = []) → spell text l a c = [] := by
  intro c
  induction c with
  | zero => intro a _; rfl
  | succ c ih =>
    intro a h
    rw [spell_front, h a (Nat.le_refl _) (by omega), ih (a + 1) fun p h1 h2 => h p (by omega) (by omega)]
    rfl
theorem spell_plain {text : ByteArray} {l : List Spl} : ∀ (c a : Nat), (∀ p, a ≤ p → p < a + c → spellAt text l p = (text.data.toList.drop p).take 1) → spell text l a c = (text.data.toList.drop a).take c := by
  intro c
  induction c with
  | zero => intro a _; simp [spell_zero]
  | succ c ih =>
    intro a h
    rw [spell_front, h a (Nat.le_refl _) (by omega), ih (a + 1) fun p h1 h2 => h p (by omega) (by omega)]
    rw [Nat.add_comm c 1, List.take_add, List.drop_drop]

theorem texts_ahead {n : Int} : ∀ (l : List Spl) (was : Int) (p : Nat), fitsFrom n was l = true → (p : Int) < was → textsAt l p = [] := by
  intro l
  induction l with
  | nil => intro was p _ _; rfl
  | cons x l ih =>
    intro was p hf hp
    rw [fitsFrom] at hf
    split at hf
    · cases hf
    · have h1 := ih _ p hf (by omega)
      simp only [textsAt, List.flatMap_cons] at *
      rw [if_neg (by omega), h1]
      rfl
theorem texts_cons (x : Spl) (l : List Spl) (p : Nat) : textsAt (x :: l) p = (if x.frm = (p : Int) then x.text.data.toList else []) ++ textsAt l p := rfl

theorem spell_is (text : ByteArray) : ∀ (l : List Spl) (was : Nat), fitsFrom text.size was l = true → was ≤ text.size →
    joinV (piecesFrom text was l) = spell text l was (text.size + 1 - was) := by
  intro l
  induction l with
  | nil =>
    intro was _ hw
    have hj : joinV (piecesFrom text was []) = text.data.toList.drop was := by
      simp only [piecesFrom, join_cons]
      rw [extract_list _ _ _ (Nat.le_refl _)]
      simp only [joinV, List.flatMap_nil, List.append_nil]
      rw [List.take_of_length_le (by simp [size_list])]
    rw [hj, spell_plain _ _ (fun p _ _ => by simp [spellAt, textsAt, byteAt, keptV]), List.take_of_length_le]
    rw [List.length_drop, size_list]; omega
  | cons x l ih =>
    intro was hf hw
    rw [fitsFrom] at hf
    split at hf
    · cases hf
    rename_i hno
    obtain ⟨f, hfe⟩ := Int.eq_ofNat_of_zero_le (show 0 ≤ x.frm by omega)
    obtain ⟨t, hte⟩ := Int.eq_ofNat_of_zero_le (show 0 ≤ x.to by omega)
    have ht : x.to.toNat = t := by omega
    have hfn : x.frm.toNat = f := by omega
    have hih := ih t (by rw [← hte]; exact hf) (by omega)
    have hj : joinV (piecesFrom text was (x :: l)) = (text.data.toList.drop was).take (f - was) ++ (x.text.data.toList ++ joinV (piecesFrom text t l)) := by
      simp only [piecesFrom, join_cons, ht, hfn]
      rw [extract_list _ _ _ (by omega)]
    rw [hj, hih]
    rw [show text.size + 1 - was = (f - was) + (text.size + 1 - f) by omega, spell_add, show was + (f - was) = f by omega]
    congr 1
    · refine (spell_plain _ _ fun p h1 h2 => ?_).symm
      obtain ⟨_, _, hk⟩ := ahead_of l x.to p hf (by omega)
      simp only [spellAt, byteAt, texts_cons, texts_ahead l x.to p hf (by omega), kept_cons, hk]
      rw [if_neg (by omega), if_pos (by simp; omega)]
      rfl
    · have hpast : ∀ p : Nat, f < p → t ≤ p → spellAt text (x :: l) p = spellAt text l p := fun p h1 h2 => by
        simp only [spellAt, byteAt, texts_cons, kept_cons]
        rw [if_neg (by omega)]
        have : ¬ (p : Int) < x.to := by omega
        simp [this]
      by_cases hft : f = t
      · subst hft
        rw [show text.size + 1 - f = (text.size - f) + 1 by omega, spell_front, spell_front, spell_congr _ (f + 1) fun p h1 h2 => hpast p (by omega) (by omega)]
        have : spellAt text (x :: l) f = x.text.data.toList ++ spellAt text l f := by
          simp only [spellAt, byteAt, texts_cons, kept_cons]
          rw [if_pos hfe]
          have : ¬ (f : Int) < x.to := by omega
          simp [this]
        rw [this, List.append_assoc]
      · rw [show text.size + 1 - f = ((t - f - 1) + 1) + (text.size + 1 - t) by omega, spell_add, show f + (t - f - 1 + 1) = t by omega, spell_congr _ t fun p h1 h2 => hpast p (by omega) h1, spell_front]
        have h1 : spellAt text (x :: l) f = x.text.data.toList := by
          simp only [spellAt, byteAt, texts_cons, kept_cons, texts_ahead l x.to f hf (by omega)]
          rw [if_pos hfe, if_neg (by simp; omega)]
          simp
        have h2 : spell text (x :: l) (f + 1) (t - f - 1) = [] := spell_none _ _ fun p h1 h2 => by
          simp only [spellAt, byteAt, texts_cons, kept_cons, texts_ahead l x.to p hf (by omega)]
          rw [if_neg (by omega), if_neg (by simp; omega)]
          rfl
        rw [h1, h2, List.append_nil]

end Go.Proofs.Ytfflfbnnohlipaa
