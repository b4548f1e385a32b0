/- Lists of keyed things, and the data of maps that hold the same. Plain. -/
import Derived.Maps.OwnSet
namespace Go.Proofs.Ytjghbcligjiaaaa
open Go.RowKit Go.Maps
set_option linter.unusedVariables false
section
variable {X : Type}
def getK (l : List (ByteArray × X)) (k : ByteArray) : Option X := (l.find? (fun p => decide (p.1 = k))).map Prod.snd
def dropK (l : List (ByteArray × X)) (k : ByteArray) : List (ByteArray × X) := l.filter (fun p => !decide (p.1 = k))
def keys (l : List (ByteArray × X)) : List ByteArray := l.map Prod.fst
theorem getK_nil (k : ByteArray) : getK ([] : List (ByteArray × X)) k = none := rfl
theorem getK_cons (p : ByteArray × X) (l : List (ByteArray × X)) (k : ByteArray) : getK (p :: l) k = if p.1 = k then some p.2 else getK l k := by
  unfold getK
  by_cases h : p.1 = k <;> simp [h]
theorem getK_none {l : List (ByteArray × X)} {k : ByteArray} : getK l k = none ↔ k ∉ keys l := by
  induction l with
  | nil => simp [getK_nil, keys]
  | cons p l ih =>
    rw [getK_cons]
    by_cases h : p.1 = k
    · simp [h, keys]
    · have : ¬ k = p.1 := fun e => h e.symm
      simp only [if_neg h, ih, keys, List.map_cons, List.mem_cons, this, false_or]
theorem getK_mem {l : List (ByteArray × X)} {k : ByteArray} {x : X} (h : getK l k = some x) : (k, x) ∈ l := by
  induction l with
  | nil => cases h
  | cons p l ih =>
    rw [getK_cons] at h
    by_cases e : p.1 = k
    · rw [if_pos e] at h
      obtain ⟨a, b⟩ := p
      simp only at e h
      cases h; subst e
      exact List.mem_cons_self ..
    · rw [if_neg e] at h
      exact List.mem_cons_of_mem _ (ih h)
theorem getK_app (l : List (ByteArray × X)) (k k' : ByteArray) (x : X) : getK (l ++ [(k, x)]) k' = match getK l k' with | some y => some y | none => if k = k' then some x else none := by
  induction l with
  | nil => simp [getK_cons, getK_nil]
  | cons p l ih =>
    rw [List.cons_append, getK_cons, getK_cons]
    by_cases e : p.1 = k'
    · simp [e]
    · simp only [if_neg e, ih]
theorem getK_drop (l : List (ByteArray × X)) (k k' : ByteArray) : getK (dropK l k) k' = if k = k' then none else getK l k' := by
  induction l with
  | nil => simp [dropK, getK_nil]
  | cons p l ih =>
    unfold dropK at ih ⊢
    by_cases e : p.1 = k
    · rw [List.filter_cons_of_neg (by simp [e]), ih, getK_cons]
      by_cases e2 : k = k'
      · simp [e2]
      · simp only [if_neg e2]
        rw [if_neg (fun h => e2 (e.symm.trans h))]
    · rw [List.filter_cons_of_pos (by simp [e]), getK_cons, getK_cons, ih]
      by_cases e2 : k = k'
      · subst e2; simp [e]
      · simp only [if_neg e2]
theorem dropK_none {l : List (ByteArray × X)} {k : ByteArray} (h : k ∉ keys l) : dropK l k = l := by
  unfold dropK
  rw [List.filter_eq_self]
  intro p hp
  have : p.1 ≠ k := fun e => h (e ▸ List.mem_map_of_mem hp)
  simp [this]
theorem keys_dropK (l : List (ByteArray × X)) (k : ByteArray) : keys (dropK l k) = (keys l).filter (fun s => !decide (s = k)) := by
  unfold keys dropK
  induction l with
  | nil => rfl
  | cons p l ih =>
    by_cases e : p.1 = k
    · rw [List.filter_cons_of_neg (by simp [e]), List.map_cons, List.filter_cons_of_neg (by simp [e]), ih]
    · rw [List.filter_cons_of_pos (by simp [e]), List.map_cons, List.map_cons, List.filter_cons_of_pos (by simp [e]), ih]
theorem nodup_dropK {l : List (ByteArray × X)} (k : ByteArray) (h : (keys l).Nodup) : (keys (dropK l k)).Nodup := by
  rw [keys_dropK]; exact h.filter _
theorem not_mem_dropK (l : List (ByteArray × X)) (k : ByteArray) : k ∉ keys (dropK l k) := by
  rw [keys_dropK]; simp
theorem keys_app (l : List (ByteArray × X)) (k : ByteArray) (x : X) : keys (l ++ [(k, x)]) = keys l ++ [k] := by simp [keys]
theorem nodup_app {l : List ByteArray} {k : ByteArray} (h : l.Nodup) (hk : k ∉ l) : (l ++ [k]).Nodup := by
  rw [List.nodup_append]
  exact ⟨h, by simp, fun a ha b hb => by simp at hb; subst hb; exact fun e => hk (e ▸ ha)⟩
theorem len_dropK {l : List (ByteArray × X)} {k : ByteArray} (h : (keys l).Nodup) (hk : k ∈ keys l) : (dropK l k).length + 1 = l.length := by
  induction l with
  | nil => simp [keys] at hk
  | cons p l ih =>
    simp only [keys, List.map_cons, List.nodup_cons] at h
    by_cases e : p.1 = k
    · have hn : k ∉ keys l := by rw [← e]; exact h.1
      have := dropK_none hn
      unfold dropK at this ⊢
      rw [List.filter_cons_of_neg (by simp [e]), this]
      rfl
    · have hm : k ∈ keys l := by
        simp only [keys, List.map_cons, List.mem_cons] at hk
        rcases hk with hk | hk
        · exact absurd hk.symm e
        · exact hk
      have := ih h.2 hm
      unfold dropK at this ⊢
      rw [List.filter_cons_of_pos (by simp [e])]
      simp only [List.length_cons]
      omega
end
def litS (s : ByteArray) : Lit := .string s.data.toList
theorem litS_inj {s t : ByteArray} (h : litS s = litS t) : s = t := by
  unfold litS at h
  cases s; cases t
  simp at h
  simp [h]
theorem litS_ne {s t : ByteArray} (h : ¬ s = t) : litS s ≠ litS t := fun e => h (litS_inj e)
theorem litS_key (s : ByteArray) : WideAt.IsKeyLit (litS s) := trivial
section
variable {X : Type} {rd : X → DataW Unit}
/-- The datum D holds what the list holds. -/
structure Tie (rd : X → DataW Unit) (D : DataW Unit) (l : List (ByteArray × X)) : Prop where
  tidy : Tidy D
  size : size D = l.length
  at_ : ∀ (k : ByteArray) z, D.atKey (litS k) z = match getK l k with | some x => rd x | none => z
theorem Tie.nil_ : Tie rd (.map []) ([] : List (ByteArray × X)) := ⟨tidy_empty, rfl, fun k z => rfl⟩
theorem Tie.has {D : DataW Unit} {l : List (ByteArray × X)} (h : Tie rd D l) (k : ByteArray) : Maps.has D (litS k) = (getK l k).isSome := by
  cases hg : getK l k with
  | none => exact has_false_of_atKey (fun z => by rw [h.at_, hg])
  | some x => exact has_true_of_atKey (y := rd x) (fun z => by rw [h.at_, hg])
theorem Tie.put {D : DataW Unit} {l : List (ByteArray × X)} (h : Tie rd D l) {k : ByteArray} (x : X) (hk : k ∉ keys l) : Tie rd (D.put (litS k) (rd x)) (l ++ [(k, x)]) := by
  refine ⟨h.tidy.put (litS_key k) _, ?_, fun k' z => ?_⟩
  · rw [size_put h.tidy, h.has, getK_none.2 hk]
    simp [h.size]
  · rw [getK_app]
    by_cases e : k = k'
    · subst e
      rw [atKey_put_same h.tidy.isMap (litS_key k), getK_none.2 hk]
      simp
    · rw [atKey_put_other (litS_ne (fun h => e h.symm)), h.at_]
      cases getK l k' <;> simp [e]
theorem Tie.del {D : DataW Unit} {l : List (ByteArray × X)} (h : Tie rd D l) (hn : (keys l).Nodup) (k : ByteArray) : Tie rd (D.del (litS k)) (dropK l k) := by
  refine ⟨h.tidy.del _, ?_, fun k' z => ?_⟩
  · have hs := size_del h.tidy (k := litS k)
    rw [h.has, h.size] at hs
    by_cases hm : k ∈ keys l
    · have hg : (getK l k).isSome = true := by
        cases hg : getK l k with
        | none => exact absurd hm (getK_none.1 hg)
        | some x => rfl
      rw [hg] at hs
      simp only [if_pos] at hs
      have := len_dropK hn hm
      omega
    · rw [getK_none.2 hm] at hs
      rw [dropK_none hm]
      simpa using hs
  · rw [getK_drop]
    by_cases e : k = k'
    · subst e
      rw [atKey_del_same]; simp
    · rw [atKey_del_other (litS_ne (fun h => e h.symm)), h.at_, if_neg e]
/-- The same things in another order. -/
theorem Tie.same {D : DataW Unit} {l l' : List (ByteArray × X)} (h : Tie rd D l) (hl : l'.length = l.length) (hg : ∀ k, getK l' k = getK l k) : Tie rd D l' := ⟨h.tidy, by rw [h.size, hl], fun k z => by rw [h.at_, hg]⟩
end
section
variable {H : Type} {P : Program} {k : TypeId} {R : Value → Option (DataW H × List MemPlace)} {w : World} {b n : Nat} {D : DataW H}
/-- A map's bound may be its size. -/
theorem owns_tight (h : w.ownsMap P k R b n D) : w.ownsMap P k R b (Maps.size D) D := by
  obtain ⟨es, clock, h1, h2, h3, rfl⟩ := h
  exact ⟨es, clock, h1, h2, by simp [Maps.size, length_sorted], rfl⟩
theorem owns_keep {w' : World} (h : w.ownsMap P k R b n D) (hk : w'.heap[b]? = w.heap[b]?) : w'.ownsMap P k R b n D := by
  obtain ⟨es, clock, h1, h2, h3, h4⟩ := h
  exact ⟨es, clock, by rw [hk]; exact h1, h2, h3, h4⟩
end
/-- How a pointer to a block reads in a map of pointers. -/
def ptrElem : Value → Option (DataW Unit × List MemPlace)
  | .pointer (some ⟨b, 0, none⟩) => some (.lit (.int .i64 b), [])
  | .pointer none => some (.nil, [])
  | _ => none
def rdp (b : Nat) : DataW Unit := .lit (.int .i64 b)
theorem ptrElem_mk (b : Nat) : ptrElem (.pointer (some ⟨b, 0, none⟩)) = some (rdp b, []) := rfl
theorem ptrElem_nil : ptrElem (.pointer none) = some (.nil, []) := rfl
theorem ptrElem_inv {v : Value} {b : Nat} {ps : List MemPlace} (h : ptrElem v = some (rdp b, ps)) : v = .pointer (some ⟨b, 0, none⟩) := by
  unfold ptrElem at h
  split at h
  · simp only [Option.some.injEq, Prod.mk.injEq, rdp, DataW.lit.injEq, Lit.int.injEq, true_and] at h
    have := h.1
    have e : _ = b := Int.ofNat_inj.1 this
    rw [e]
  · simp [rdp] at h
  · cases h
theorem ptrElem_inv_nil {v : Value} {ps : List MemPlace} (h : ptrElem v = some (.nil, ps)) : v = .pointer none := by
  unfold ptrElem at h
  split at h
  · simp at h
  · rfl
  · cases h
end Go.Proofs.Ytjghbcligjiaaaa
