/- How a memo in memory turns. -/
import Derived.Test.YtjghbcligjiaaaaMemoAt
namespace Go.Proofs.Ytjghbcligjiaaaa
open Go.RowKit Go.Maps
set_option linter.unusedVariables false
set_option linter.unusedSimpArgs false

section
variable {X : Type}
def setK (l : List (ByteArray × X)) (k : ByteArray) (y : X) : List (ByteArray × X) := l.map (fun p => if p.1 = k then (p.1, y) else p)
theorem keys_setK (l : List (ByteArray × X)) (k : ByteArray) (y : X) : keys (setK l k y) = keys l := by
  unfold keys setK
  rw [List.map_map]
  refine List.map_congr_left fun p _ => ?_
  by_cases h : p.1 = k <;> simp [h]
theorem getK_setK (l : List (ByteArray × X)) (k k' : ByteArray) (y : X) : getK (setK l k y) k' = if k = k' then (getK l k').map (fun _ => y) else getK l k' := by
  induction l with
  | nil => simp [setK, getK_nil]
  | cons p l ih =>
    have e : setK (p :: l) k y = (if p.1 = k then (p.1, y) else p) :: setK l k y := rfl
    rw [e, getK_cons, getK_cons, ih]
    by_cases h : p.1 = k
    · by_cases h2 : k = k'
      · subst h2; simp [h]
      · have : ¬ p.1 = k' := fun e => h2 (h.symm.trans e)
        simp [h, h2]
    · by_cases h2 : p.1 = k'
      · have : ¬ k = k' := fun e => h (h2.trans e.symm)
        simp only [if_neg h, if_pos h2, if_neg this]
      · simp only [if_neg h, if_neg h2]
end
/-- What a memo holds, without the places. -/
structure AS (τ : Type) where
  most : Nat
  kept : List (ByteArray × τ)
  making : List (ByteArray × (Int × List Int))
def flA (f : Fl) : Int × List Int := (f.who, f.wait)
def MS.abs {τ : Type} (S : MS τ) : AS τ := ⟨S.most, S.kept, S.making.map (fun p => (p.1, flA p.2))⟩
inductive AskR (τ : Type)
  | hit (x : τ)
  | make
  | wait
  | own
def askA {τ : Type} (S : AS τ) (k : ByteArray) (who : Int) : AS τ × AskR τ :=
  match getK S.kept k with
  | some x => ({ S with kept := dropK S.kept k ++ [(k, x)] }, .hit x)
  | none => match getK S.making k with
    | some (a, l) => if a = who then (S, .own) else if who ∈ l then (S, .wait) else ({ S with making := setK S.making k (a, l ++ [who]) }, .wait)
    | none => ({ S with making := S.making ++ [(k, (who, []))] }, .make)
def giveA {τ : Type} (S : AS τ) (k : ByteArray) (who : Int) (x : τ) : AS τ × Option (List Int) :=
  match getK S.making k with
  | some (a, l) => if a = who then ({ S with making := dropK S.making k, kept := if S.most < S.kept.length + 1 then (S.kept ++ [(k, x)]).tail else S.kept ++ [(k, x)] }, some l) else (S, none)
  | none => (S, none)

section
variable {X Y : Type} (f : X → Y)
theorem getK_map (l : List (ByteArray × X)) (k : ByteArray) : getK (l.map (fun p => (p.1, f p.2))) k = (getK l k).map f := by
  induction l with
  | nil => rfl
  | cons p l ih =>
    rw [List.map_cons, getK_cons, getK_cons, ih]
    by_cases h : p.1 = k <;> simp [h]
theorem dropK_map (l : List (ByteArray × X)) (k : ByteArray) : dropK (l.map (fun p => (p.1, f p.2))) k = (dropK l k).map (fun p => (p.1, f p.2)) := by
  unfold dropK
  rw [List.filter_map]
  rfl
theorem setK_map (l : List (ByteArray × X)) (k : ByteArray) (y : X) : setK (l.map (fun p => (p.1, f p.2))) k (f y) = (setK l k y).map (fun p => (p.1, f p.2)) := by
  unfold setK
  rw [List.map_map, List.map_map]
  refine List.map_congr_left fun p _ => ?_
  by_cases h : p.1 = k <;> simp [h]
theorem keys_map (l : List (ByteArray × X)) : keys (l.map (fun p => (p.1, f p.2))) = keys l := by
  unfold keys; rw [List.map_map]; rfl
end

/-! ### lists of blocks -/
theorem nodup_swap {A U U' C : List Nat} (h : (A ++ (U ++ C)).Nodup) (hu : U' = U ∨ U' = [] ∨ ∃ g, U' = [g] ∧ g ∉ A ∧ g ∉ C) : (A ++ (U' ++ C)).Nodup := by
  rw [List.nodup_append] at h ⊢
  obtain ⟨h1, h2, h3⟩ := h
  rw [List.nodup_append] at h2
  obtain ⟨h4, h5, h6⟩ := h2
  rcases hu with rfl | rfl | ⟨g, rfl, g1, g2⟩
  · exact ⟨h1, by rw [List.nodup_append]; exact ⟨h4, h5, h6⟩, h3⟩
  · exact ⟨h1, by simpa using h5, fun a ha b hb => h3 a ha b (by simp at hb; simp [hb])⟩
  · refine ⟨h1, by rw [List.nodup_append]; exact ⟨by simp, h5, fun a ha b hb => by simp at ha; subst ha; exact fun e => g2 (e ▸ hb)⟩, fun a ha b hb => ?_⟩
    simp only [List.mem_append, List.mem_singleton] at hb
    rcases hb with rfl | hb
    · exact fun e => g1 (e ▸ ha)
    · exact h3 a ha b (by simp [hb])

section
variable {τ : Type} {P : Program} {T : MT τ} {w w' : World} {st : Int} {S : MS τ} {B : MB}
/-- The row of the kept keys is another one. -/
def NewOwn (w : World) (v v' : Value) : Prop := v'.ownBlock = v.ownBlock ∨ ∃ g, v'.ownBlock = some g ∧ w.heap.size ≤ g
theorem NewOwn.list {v v' : Value} (h : NewOwn w v v') : own v' = own v ∨ ∃ g, own v' = [g] ∧ w.heap.size ≤ g := by
  rcases h with h | ⟨g, h, hg⟩
  · exact .inl (by unfold own; rw [h])
  · exact .inr ⟨g, by unfold own; rw [h]; rfl, hg⟩
theorem MemoAt.us_nodup (h : MemoAt P T w st S B) {us' : Value} (hu : NewOwn w B.us us') {K : List (ByteArray × τ)} : (foot { S with kept := K } { B with us := us' }).Nodup := by
  have hn := h.nodup
  have hl := h.lt
  unfold foot at hn hl ⊢
  refine nodup_swap (A := [B.m, B.bv, B.bf]) (U := own B.us) hn ?_
  rcases hu.list with e | ⟨g, e, hg⟩
  · exact .inl e
  · refine .inr (.inr ⟨g, e, fun hm => ?_, fun hm => ?_⟩)
    · have := hl g (by simp only [List.mem_cons, List.mem_append] at hm ⊢; rcases hm with h | h | h | h <;> simp_all)
      omega
    · have := hl g (by simp only [List.mem_cons, List.mem_append]; exact .inr (.inr (.inr (.inr (List.mem_append.1 hm)))))
      omega
theorem foot_us_of {us' : Value} {K : List (ByteArray × τ)} (hu : NewOwn w B.us us') : ∀ b ∈ foot { S with kept := K } { B with us := us' }, b ∈ foot S B ∨ w.heap.size ≤ b := by
  intro b hb
  unfold foot at hb ⊢
  simp only [List.mem_cons, List.mem_append] at hb ⊢
  rcases hb with h | h | h | h | h | h
  · exact .inl (.inl h)
  · exact .inl (.inr (.inl h))
  · exact .inl (.inr (.inr (.inl h)))
  · rcases hu.list with e | ⟨g, e, hg⟩
    · rw [e] at h; exact .inl (.inr (.inr (.inr (.inl h))))
    · rw [e] at h; simp at h; subst h; exact .inr hg
  · exact .inl (.inr (.inr (.inr (.inr (.inl h)))))
  · exact .inl (.inr (.inr (.inr (.inr (.inr h)))))
/-- A kept key is asked for: it goes behind the others. -/
theorem MemoAt.hit (h : MemoAt P T w st S B) {k : ByteArray} {x : τ} (hk : getK S.kept k = some x) {us' : Value} (hu : NewOwn w B.us us')
    (ho : w'.heap[B.m]? = some (.cells (memoCells st S { B with us := us' }) T.memo (0, 0)))
    (hrow : OffRow T.str w' us' ((dropK S.kept k ++ [(k, x)]).map (fun p => Value.string p.1)))
    (hkeep : ∀ b ∈ foot S B, b ≠ B.m → B.us.ownBlock ≠ some b → w'.heap[b]? = w.heap[b]?) :
    MemoAt P T w' st { S with kept := dropK S.kept k ++ [(k, x)] } { B with us := us' } := by
  have hn := h.nodup
  have hm : ∀ b, b ∈ foot S B → b ∉ [B.m] → b ∉ own B.us → w'.heap[b]? = w.heap[b]? := fun b hb h1 h2 => hkeep b hb (by simpa using h1) (fun e => h2 (mem_own.2 e))
  unfold foot at hn
  simp only [List.nodup_cons, List.mem_cons, List.mem_append, not_or] at hn
  obtain ⟨⟨n1, n2, n3, n4, n5⟩, ⟨n6, n7, n8, n9⟩, ⟨n10, n11, n12⟩, n13⟩ := hn
  rw [List.nodup_append] at n13
  obtain ⟨n14, n15, n16⟩ := n13
  have hmk : k ∈ keys S.kept := by
    rcases Classical.em (k ∈ keys S.kept) with h | h
    · exact h
    · rw [getK_none.2 h] at hk; cases hk
  have hlen : (dropK S.kept k ++ [(k, x)]).length = S.kept.length := by
    rw [List.length_append, List.length_singleton]; exact len_dropK h.ukept hmk
  obtain ⟨D, h1, h2⟩ := h.vals
  obtain ⟨E, h3, h4⟩ := h.flts
  have hD : Tie T.rdv D (dropK S.kept k ++ [(k, x)]) := h2.same hlen (fun k' => by
    rw [getK_app, getK_drop]
    by_cases e : k = k'
    · subst e; simp [hk]
    · simp only [if_neg e]
      cases getK S.kept k' <;> rfl)
  refine ⟨ho, ⟨D, owns_keep (by rw [hlen]; exact h1) (hm _ (by simp [foot]) (by simp; exact fun e => n1 e.symm) n7), hD⟩, ⟨E, owns_keep h3 (hm _ (by simp [foot]) (by simp; exact fun e => n2 e.symm) n10), h4⟩, hrow, ?_, ?_, h.us_nodup hu, ?_, h.umaking, ?_⟩
  · refine h.began.keep fun b hb => hm b (foot_bs hb) (by simp; exact fun e => n4 (e ▸ mem_own.2 hb)) (fun e => ?_)
    exact n16 b e b (List.mem_append_left _ (mem_own.2 hb)) rfl
  · intro p hp
    refine (h.fls p hp).keep fun b hb => hm b (foot_fl hp hb) (by simp; exact fun e => n5 (e ▸ List.mem_flatMap.2 ⟨p, hp, hb⟩)) (fun e => ?_)
    exact n16 b e b (List.mem_append_right _ (List.mem_flatMap.2 ⟨p, hp, hb⟩)) rfl
  · rw [keys_app]; exact nodup_app (nodup_dropK k h.ukept) (not_mem_dropK _ _)
  · intro k' hk'
    rw [keys_app] at hk'
    rcases List.mem_append.1 hk' with h' | h'
    · rw [keys_dropK] at h'; exact h.apart k' (List.mem_filter.1 h').1
    · simp at h'; subst h'; exact h.apart _ hmk
end
end Go.Proofs.Ytjghbcligjiaaaa
