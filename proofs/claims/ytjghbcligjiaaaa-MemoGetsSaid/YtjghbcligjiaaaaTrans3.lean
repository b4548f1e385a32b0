/- How a memo in memory turns: a key is given. -/
import Derived.Test.YtjghbcligjiaaaaTrans2
namespace Go.Proofs.Ytjghbcligjiaaaa
open Go.RowKit Go.Maps
set_option linter.unusedVariables false
set_option linter.unusedSimpArgs false
section
variable {τ : Type} {P : Program} {T : MT τ} {w w' : World} {st : Int} {S : MS τ} {B : MB}
theorem MemoAt.give (h : MemoAt P T w st S B) {k : ByteArray} {f : Fl} (hf : getK S.making k = some f) {us' bs' : Value} {K' : List (ByteArray × τ)}
    (hKn : (keys K').Nodup) (hKk : ∀ k' ∈ keys K', k' ∈ keys S.kept ∨ k' = k) (hu : NewOwn w B.us us') (hb : bs'.ownBlock = B.bs.ownBlock)
    (ho : w'.heap[B.m]? = some (.cells (memoCells st { S with kept := K' } { B with us := us', bs := bs' }) T.memo (0, 0)))
    (hrowu : OffRow T.str w' us' (K'.map (fun p => Value.string p.1)))
    (hrowb : OffRow T.str w' bs' ((dropK S.making k).map (fun p => Value.string p.1)))
    (hvals : ∃ D, w'.ownsMap P T.str (plainElem P T.val) B.bv K'.length D ∧ Tie T.rdv D K')
    (hflts : ∃ D, w'.ownsMap P T.str ptrElem B.bf (dropK S.making k).length D ∧ Tie (fun f : Fl => rdp f.blk) D (dropK S.making k))
    (hkeep : ∀ b ∈ foot S B, b ≠ B.m → b ≠ B.bv → b ≠ B.bf → B.us.ownBlock ≠ some b → B.bs.ownBlock ≠ some b → b ∉ flFoot f → w'.heap[b]? = w.heap[b]?) :
    MemoAt P T w' st { S with making := dropK S.making k, kept := K' } { B with us := us', bs := bs' } ∧
      ∀ b ∈ foot { S with making := dropK S.making k, kept := K' } { B with us := us', bs := bs' }, b ∈ foot S B ∨ w.heap.size ≤ b := by
  obtain ⟨M1, M2, e, k1, k2⟩ := split_at hf h.umaking
  have e2 : dropK S.making k = M1 ++ M2 := by rw [e]; exact dropK_split k1 k2
  have hn := h.nodup
  have hl := h.lt
  have hob : own bs' = own B.bs := by unfold own; rw [hb]
  have e1 : foot S B = (B.m :: B.bv :: [B.bf]) ++ (own B.us ++ (own B.bs ++ (M1.flatMap (fun p => flFoot p.2) ++ (flFoot f ++ M2.flatMap (fun p => flFoot p.2))))) := by unfold foot; rw [e]; simp
  have e3 : foot { S with making := dropK S.making k, kept := K' } { B with us := us', bs := bs' } = (B.m :: B.bv :: [B.bf]) ++ (own us' ++ (own B.bs ++ (M1.flatMap (fun p => flFoot p.2) ++ M2.flatMap (fun p => flFoot p.2)))) := by
    unfold foot; simp only [e2, hob]; simp
  have hsub : ∀ b ∈ own B.bs ++ (M1.flatMap (fun p => flFoot p.2) ++ M2.flatMap (fun p => flFoot p.2)), b ∈ own B.bs ++ (M1.flatMap (fun p => flFoot p.2) ++ (flFoot f ++ M2.flatMap (fun p => flFoot p.2))) := by
    intro b hb
    simp only [List.mem_append] at hb ⊢
    rcases hb with h | h | h
    · exact .inl h
    · exact .inr (.inl h)
    · exact .inr (.inr (.inr h))
  have hn1 : ((B.m :: B.bv :: [B.bf]) ++ (own B.us ++ (own B.bs ++ (M1.flatMap (fun p => flFoot p.2) ++ M2.flatMap (fun p => flFoot p.2))))).Nodup := by
    rw [e1] at hn
    refine hn.sublist ?_
    refine List.Sublist.append (List.Sublist.refl _) (List.Sublist.append (List.Sublist.refl _) (List.Sublist.append (List.Sublist.refl _) (List.Sublist.append (List.Sublist.refl _) ?_)))
    exact List.sublist_append_right _ _
  have hin : ∀ b ∈ own us', b ∈ own B.us ∨ w.heap.size ≤ b := by
    intro b hb2
    rcases hu.list with e | ⟨g, e, hg⟩
    · rw [e] at hb2; exact .inl hb2
    · rw [e] at hb2; simp at hb2; subst hb2; exact .inr hg
  have hnd : (foot { S with making := dropK S.making k, kept := K' } { B with us := us', bs := bs' }).Nodup := by
    rw [e3]
    refine nodup_swap hn1 ?_
    rcases hu.list with e | ⟨g, e, hg⟩
    · exact .inl e
    · refine .inr (.inr ⟨g, e, fun hm => ?_, fun hm => ?_⟩)
      · have := hl g (by rw [e1]; exact List.mem_append_left _ hm); omega
      · have := hl g (by rw [e1]; exact List.mem_append_right _ (List.mem_append_right _ (hsub g hm))); omega
  have hn2 := hn
  rw [e1] at hn2
  rw [List.nodup_append] at hn2
  obtain ⟨n1, n2, n3⟩ := hn2
  rw [List.nodup_append] at n2
  obtain ⟨n4, n5, n6⟩ := n2
  rw [List.nodup_append] at n5
  obtain ⟨n7, n8, n9⟩ := n5
  rw [List.nodup_append] at n8
  obtain ⟨n10, n11, n12⟩ := n8
  rw [List.nodup_append] at n11
  obtain ⟨n13, n14, n15⟩ := n11
  refine ⟨⟨ho, hvals, hflts, hrowu, hrowb, ?_, hnd, hKn, nodup_dropK k h.umaking, ?_⟩, ?_⟩
  · intro p hp
    rw [e2] at hp
    have hpm : p ∈ S.making := by
      rw [e]
      rcases List.mem_append.1 hp with hp | hp
      · exact List.mem_append_left _ hp
      · exact List.mem_append_right _ (List.mem_cons_of_mem _ hp)
    refine (h.fls p hpm).keep fun b hbp => ?_
    have hr : b ∈ M1.flatMap (fun p => flFoot p.2) ++ (flFoot f ++ M2.flatMap (fun p => flFoot p.2)) := by
      rcases List.mem_append.1 hp with hp | hp
      · exact List.mem_append_left _ (List.mem_flatMap.2 ⟨p, hp, hbp⟩)
      · exact List.mem_append_right _ (List.mem_append_right _ (List.mem_flatMap.2 ⟨p, hp, hbp⟩))
    refine hkeep b (foot_fl hpm hbp) ?_ ?_ ?_ ?_ ?_ ?_
    · exact fun x => n3 B.m (by simp) b (List.mem_append_right _ (List.mem_append_right _ hr)) x.symm
    · exact fun x => n3 B.bv (by simp) b (List.mem_append_right _ (List.mem_append_right _ hr)) x.symm
    · exact fun x => n3 B.bf (by simp) b (List.mem_append_right _ (List.mem_append_right _ hr)) x.symm
    · exact fun x => n6 b (mem_own.2 x) b (List.mem_append_right _ hr) rfl
    · exact fun x => n9 b (mem_own.2 x) b hr rfl
    · intro x
      rcases List.mem_append.1 hp with hp | hp
      · exact n12 b (List.mem_flatMap.2 ⟨p, hp, hbp⟩) b (List.mem_append_left _ x) rfl
      · exact n15 b x b (List.mem_flatMap.2 ⟨p, hp, hbp⟩) rfl
  · intro k' hk' hm
    rw [keys_dropK] at hm
    obtain ⟨hm1, hm2⟩ := List.mem_filter.1 hm
    rcases hKk k' hk' with h1 | h1
    · exact h.apart k' h1 hm1
    · simp [h1] at hm2
  · intro b hb2
    rw [e3] at hb2
    rcases List.mem_append.1 hb2 with hb2 | hb2
    · exact .inl (by rw [e1]; exact List.mem_append_left _ hb2)
    · rcases List.mem_append.1 hb2 with hb2 | hb2
      · rcases hin b hb2 with h1 | h1
        · exact .inl (by rw [e1]; exact List.mem_append_right _ (List.mem_append_left _ h1))
        · exact .inr h1
      · exact .inl (by rw [e1]; exact List.mem_append_right _ (List.mem_append_right _ (hsub b hb2)))
/-- A memo just made. -/
theorem MemoAt.new {m bv bf : Nat} {most : Nat} (ho : w.heap[m]? = some (.cells #[.int .i32 0, .int .u32 0, .int .i64 most, .map (some bv), .slice none 0 0, .map (some bf), .slice none 0 0] T.memo (0, 0)))
    (hv : w.ownsMap P T.str (plainElem (H := Unit) P T.val) bv 0 (.map [])) (hf : w.ownsMap P T.str ptrElem bf 0 (.map [])) (h1 : m ≠ bv) (h2 : m ≠ bf) (h3 : bv ≠ bf) :
    MemoAt P T w 0 ⟨most, [], []⟩ ⟨m, bv, bf, .slice none 0 0, .slice none 0 0⟩ :=
  ⟨ho, ⟨_, hv, Tie.nil_⟩, ⟨_, hf, Tie.nil_⟩, OffRow.nil_, OffRow.nil_, fun p hp => (by cases hp), by simp [foot, own, Value.ownBlock, h1, h2, h3], List.nodup_nil, List.nodup_nil, fun k hk => (by cases hk)⟩
/-- The lock turned. -/
theorem MemoAt.lock (h : MemoAt P T w st S B) {st' : Int} (ho : w'.heap[B.m]? = some (.cells (memoCells st' S B) T.memo (0, 0))) (hk : ∀ b ∈ foot S B, b ≠ B.m → w'.heap[b]? = w.heap[b]?) : MemoAt P T w' st' S B := by
  have hn := h.nodup
  unfold foot at hn
  simp only [List.nodup_cons, List.mem_cons, List.mem_append, not_or] at hn
  obtain ⟨⟨n1, n2, n3, n4, n5⟩, _⟩ := hn
  obtain ⟨D, h1, h2⟩ := h.vals
  obtain ⟨E, h3, h4⟩ := h.flts
  refine ⟨ho, ⟨D, owns_keep h1 (hk _ (by simp [foot]) (fun e => n1 e.symm)), h2⟩, ⟨E, owns_keep h3 (hk _ (by simp [foot]) (fun e => n2 e.symm)), h4⟩, h.used.keep fun k hu => hk k (foot_us hu) (fun e => n3 (e ▸ mem_own.2 hu)), h.began.keep fun k hu => hk k (foot_bs hu) (fun e => n4 (e ▸ mem_own.2 hu)), fun p hp => (h.fls p hp).keep fun b hb => hk b (foot_fl hp hb) (fun e => n5 (e ▸ List.mem_flatMap.2 ⟨p, hp, hb⟩)), h.nodup, h.ukept, h.umaking, h.apart⟩
end
end Go.Proofs.Ytjghbcligjiaaaa
