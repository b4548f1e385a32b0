/- What asking, and giving, makes of a plain memo. -/
import Derived.Test.YtjghbcligjiaaaaCount
namespace Go.Proofs.Ytjghbcligjiaaaa
open Go.RowKit Go.Maps Go.Sort
set_option linter.unusedVariables false
set_option linter.unusedSimpArgs false
/-- The key of a number. -/
def kof (x : Nat) : ByteArray := ⟨#[UInt8.ofNat (97 + x % 9)]⟩
theorem kof_size (x : Nat) : (kof x).size ≤ maxLen := by simp [kof, ByteArray.size, maxLen]
/-- An entry of a key that is being made: who began, who waits. -/
structure Ent (l : List Nat) (k : Nat) (p : ByteArray × (Int × List Int)) (a : Nat) : Prop where
  who : p.2.1 = (a : Int)
  lt : a < k
  at_ : ∃ x, l[a]? = some x ∧ kof x = p.1
  first : ∀ j x, j < a → l[j]? = some x → kof x ≠ p.1
  waits : ∀ y ∈ p.2.2, ∃ j : Nat, y = (j : Int) ∧ a < j ∧ j < k ∧ ∃ x, l[j]? = some x ∧ kof x = p.1
  rise : p.2.2.Pairwise (· < ·)
theorem Ent.more {l : List Nat} {k : Nat} {p : ByteArray × (Int × List Int)} {a : Nat} (h : Ent l k p a) : Ent l (k + 1) p a :=
  ⟨h.who, by have := h.lt; omega, h.at_, h.first, fun y hy => by obtain ⟨j, h1, h2, h3, h4⟩ := h.waits y hy; exact ⟨j, h1, h2, by omega, h4⟩, h.rise⟩
def waitsOf (M : List (ByteArray × (Int × List Int))) : Nat := (M.map (fun p => p.2.2.length)).sum
/-- k keys of l have been asked for, one behind the other. -/
structure Asked (l : List Nat) (k : Nat) (A : AS Int) (nw : Nat) : Prop where
  kept : A.kept = []
  ent : ∀ p ∈ A.making, ∃ a, Ent l k p a
  seen : ∀ j x, j < k → l[j]? = some x → kof x ∈ keys A.making
  sum : waitsOf A.making = nw
  nd : (keys A.making).Nodup
theorem asked_none (l : List Nat) (n : Nat) : Asked l 0 ⟨n, [], []⟩ 0 := ⟨rfl, fun p hp => (by cases hp), fun j x h => absurd h (Nat.not_lt_zero _), rfl, List.nodup_nil⟩
theorem asked_step {l : List Nat} {k : Nat} {A : AS Int} {nw : Nat} (h : Asked l k A nw) {x : Nat} (hx : l[k]? = some x) :
    (∃ A', askA A (kof x) (k : Int) = (A', .make) ∧ Asked l (k + 1) A' nw) ∨ (∃ A', askA A (kof x) (k : Int) = (A', .wait) ∧ Asked l (k + 1) A' (nw + 1)) := by
  have hk : getK A.kept (kof x) = none := by rw [h.kept]; rfl
  cases hf : getK A.making (kof x) with
  | none =>
    have hnm := getK_none.1 hf
    refine .inl ⟨{ A with making := A.making ++ [(kof x, ((k : Int), []))] }, by unfold askA; rw [hk, hf], h.kept, ?_, ?_, ?_, ?_⟩
    · intro p hp
      rcases List.mem_append.1 hp with hp | hp
      · obtain ⟨a, ha⟩ := h.ent p hp
        exact ⟨a, ha.more⟩
      · simp at hp
        subst hp
        refine ⟨k, rfl, by omega, ⟨x, hx, rfl⟩, fun j y hj hy e => hnm ?_, fun y hy => (by cases hy), List.Pairwise.nil⟩
        have := h.seen j y hj hy
        rw [e] at this; exact this
    · intro j y hj hy
      rw [keys_app]
      by_cases hjk : j < k
      · exact List.mem_append_left _ (h.seen j y hjk hy)
      · obtain rfl : j = k := by omega
        rw [hx] at hy; cases hy
        simp
    · have := h.sum
      unfold waitsOf at this ⊢
      simp [this]
    · rw [keys_app]; exact nodup_app h.nd hnm
  | some f =>
    obtain ⟨a, ws⟩ := f
    obtain ⟨b, hb⟩ := h.ent _ (getK_mem hf)
    have hwho : a = (b : Int) := hb.who
    have hne : ¬ a = (k : Int) := by have := hb.lt; omega
    have hnw : ¬ (k : Int) ∈ ws := fun hm => by
      obtain ⟨j, h1, h2, h3, _⟩ := hb.waits _ hm
      have : (k : Int) = (j : Int) := h1
      omega
    obtain ⟨M1, M2, e, k1, k2⟩ := split_at hf h.nd
    refine .inr ⟨{ A with making := setK A.making (kof x) (a, ws ++ [(k : Int)]) }, by unfold askA; rw [hk, hf]; simp [hne, hnw], h.kept, ?_, ?_, ?_, ?_⟩
    · intro p hp
      rw [e, setK_split _ k1 k2] at hp
      rcases List.mem_append.1 hp with hp | hp
      · obtain ⟨c, hc⟩ := h.ent p (by rw [e]; simp [hp])
        exact ⟨c, hc.more⟩
      · rcases List.mem_cons.1 hp with rfl | hp
        · refine ⟨b, hwho, by have := hb.lt; omega, hb.at_, hb.first, fun y hy => ?_, ?_⟩
          · rcases List.mem_append.1 hy with hy | hy
            · obtain ⟨j, h1, h2, h3, h4⟩ := hb.waits y hy
              exact ⟨j, h1, h2, by omega, h4⟩
            · simp at hy
              exact ⟨k, hy, hb.lt, by omega, x, hx, rfl⟩
          · rw [List.pairwise_append]
            refine ⟨hb.rise, by simp, fun u hu v hv => ?_⟩
            obtain ⟨j, h1, h2, h3, _⟩ := hb.waits u hu
            simp at hv
            omega
        · obtain ⟨c, hc⟩ := h.ent p (by rw [e]; simp [hp])
          exact ⟨c, hc.more⟩
    · intro j y hj hy
      rw [keys_setK]
      by_cases hjk : j < k
      · exact h.seen j y hjk hy
      · obtain rfl : j = k := by omega
        rw [hx] at hy; cases hy
        exact List.mem_map_of_mem (f := Prod.fst) (getK_mem hf)
    · have := h.sum
      unfold waitsOf at this ⊢
      rw [e] at this
      rw [e, setK_split _ k1 k2]
      simp at this ⊢
      omega
    · rw [keys_setK]; exact h.nd
/-- The first of what is being made is given. -/
theorem give_head {A : AS Int} {p : ByteArray × (Int × List Int)} {M : List (ByteArray × (Int × List Int))} (h : A.making = p :: M) (hn : (keys (p :: M)).Nodup) (x : Int) :
    (giveA A p.1 p.2.1 x).2 = some p.2.2 ∧ (giveA A p.1 p.2.1 x).1.making = M := by
  have hg : getK A.making p.1 = some p.2 := by rw [h, getK_cons, if_pos rfl]
  have hd : dropK A.making p.1 = M := by
    rw [h]
    have e : dropK (p :: M) p.1 = dropK M p.1 := by unfold dropK; rw [List.filter_cons_of_neg (by simp)]
    rw [e]
    exact dropK_none (by simp only [keys, List.map_cons, List.nodup_cons] at hn; exact hn.1)
  obtain ⟨k, a, l⟩ := p
  unfold giveA
  rw [hg]
  simp only [if_true]
  exact ⟨trivial, hd⟩
theorem waitsOf_take {M : List (ByteArray × (Int × List Int))} {i : Nat} {p : ByteArray × (Int × List Int)} (h : M[i]? = some p) : waitsOf (M.take (i + 1)) = waitsOf (M.take i) + p.2.2.length := by
  rw [take_succ_at h]
  unfold waitsOf
  simp
theorem waitsOf_le (M : List (ByteArray × (Int × List Int))) (i : Nat) : waitsOf (M.take i) ≤ waitsOf M := by
  have e : waitsOf M = waitsOf (M.take i) + waitsOf (M.drop i) := by
    unfold waitsOf
    rw [← List.sum_append, ← List.map_append, List.take_append_drop]
  omega
end Go.Proofs.Ytjghbcligjiaaaa
