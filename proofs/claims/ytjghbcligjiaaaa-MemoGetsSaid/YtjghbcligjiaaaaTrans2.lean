/- How a memo in memory turns: one more waits; a key is begun; a key is given. -/
import Derived.Test.YtjghbcligjiaaaaTrans
namespace Go.Proofs.Ytjghbcligjiaaaa
open Go.RowKit Go.Maps
set_option linter.unusedVariables false
set_option linter.unusedSimpArgs false

section
variable {X : Type}
theorem split_at : ∀ {l : List (ByteArray × X)} {k : ByteArray} {x : X}, getK l k = some x → (keys l).Nodup →
    ∃ M1 M2, l = M1 ++ (k, x) :: M2 ∧ k ∉ keys M1 ∧ k ∉ keys M2
  | [], k, x, h, _ => by cases h
  | p :: l, k, x, h, hn => by
    rw [getK_cons] at h
    simp only [keys, List.map_cons, List.nodup_cons] at hn
    by_cases e : p.1 = k
    · rw [if_pos e] at h
      obtain ⟨a, b⟩ := p
      simp only at e h hn
      cases h; subst e
      exact ⟨[], l, rfl, by simp [keys], hn.1⟩
    · rw [if_neg e] at h
      obtain ⟨M1, M2, h1, h2, h3⟩ := split_at h hn.2
      refine ⟨p :: M1, M2, by rw [h1]; rfl, ?_, h3⟩
      simp only [keys, List.map_cons, List.mem_cons, not_or]
      exact ⟨fun h => e h.symm, h2⟩
theorem setK_none {l : List (ByteArray × X)} {k : ByteArray} (y : X) (h : k ∉ keys l) : setK l k y = l := by
  unfold setK
  conv => rhs; rw [← List.map_id l]
  refine List.map_congr_left fun p hp => ?_
  have : ¬ p.1 = k := fun e => h (e ▸ List.mem_map_of_mem hp)
  simp [this]
theorem setK_split {M1 M2 : List (ByteArray × X)} {k : ByteArray} {x : X} (y : X) (h1 : k ∉ keys M1) (h2 : k ∉ keys M2) : setK (M1 ++ (k, x) :: M2) k y = M1 ++ (k, y) :: M2 := by
  have e : setK (M1 ++ (k, x) :: M2) k y = setK M1 k y ++ (k, y) :: setK M2 k y := by unfold setK; simp
  rw [e, setK_none y h1, setK_none y h2]
theorem dropK_split {M1 M2 : List (ByteArray × X)} {k : ByteArray} {x : X} (h1 : k ∉ keys M1) (h2 : k ∉ keys M2) : dropK (M1 ++ (k, x) :: M2) k = M1 ++ M2 := by
  have e : dropK (M1 ++ (k, x) :: M2) k = dropK M1 k ++ dropK M2 k := by unfold dropK; simp
  rw [e, dropK_none h1, dropK_none h2]
end

theorem Tie.same2 {X Y : Type} {rd : X → DataW Unit} {rd' : Y → DataW Unit} {D : DataW Unit} {l : List (ByteArray × X)} {l' : List (ByteArray × Y)} (h : Tie rd D l) (hl : l'.length = l.length) (hg : ∀ k, (getK l' k).map rd' = (getK l k).map rd) : Tie rd' D l' := by
  refine ⟨h.tidy, by rw [h.size, hl], fun k z => ?_⟩
  have e := hg k
  rw [h.at_]
  cases h1 : getK l' k <;> cases h2 : getK l k <;> rw [h1, h2] at e <;> simp at e ⊢
  exact e.symm
section
variable {τ : Type} {P : Program} {T : MT τ} {w w' : World} {st : Int} {S : MS τ} {B : MB}
theorem foot_split {M1 M2 : List (ByteArray × Fl)} {k : ByteArray} {f : Fl} (hm : S.making = M1 ++ (k, f) :: M2) :
    foot S B = (B.m :: B.bv :: B.bf :: (own B.us ++ (own B.bs ++ (M1.flatMap (fun p => flFoot p.2) ++ [f.blk, f.ch])))) ++ (own f.ws ++ M2.flatMap (fun p => flFoot p.2)) := by
  unfold foot
  rw [hm]
  simp [flFoot, List.append_assoc]
/-- One more waits. -/
theorem MemoAt.wait (h : MemoAt P T w st S B) {k : ByteArray} {f : Fl} (hk : getK S.making k = some f) {who : Int} {ws' : Value} (hu : NewOwn w f.ws ws')
    (ho : w'.heap[f.blk]? = some (.cells #[.int .i64 f.who, ws', .chan (some f.ch), T.zero] T.fl (0, 0)))
    (hrow : OffRow T.int w' ws' ((f.wait ++ [who]).map (Value.int .i64)))
    (hkeep : ∀ b ∈ foot S B, b ≠ f.blk → f.ws.ownBlock ≠ some b → w'.heap[b]? = w.heap[b]?) :
    MemoAt P T w' st { S with making := setK S.making k { f with wait := f.wait ++ [who], ws := ws' } } B ∧
      ∀ b ∈ foot { S with making := setK S.making k { f with wait := f.wait ++ [who], ws := ws' } } B, b ∈ foot S B ∨ w.heap.size ≤ b := by
  obtain ⟨M1, M2, e, k1, k2⟩ := split_at hk h.umaking
  have e2 : setK S.making k { f with wait := f.wait ++ [who], ws := ws' } = M1 ++ (k, { f with wait := f.wait ++ [who], ws := ws' }) :: M2 := by rw [e]; exact setK_split _ k1 k2
  have hf := h.fls (k, f) (by rw [e]; simp)
  have hn := h.nodup
  have hl := h.lt
  have hfs := foot_split (S := S) (B := B) e
  have hfs' := foot_split (S := { S with making := setK S.making k { f with wait := f.wait ++ [who], ws := ws' } }) (B := B) e2
  simp only at hfs'
  have hlw : ∀ b ∈ own f.ws, b ∈ foot S B := fun b hb => foot_fl (p := (k, f)) (by rw [e]; simp) (by simp [flFoot, hb])
  have hn0 := hn
  rw [hfs] at hn
  have hnd : (foot { S with making := setK S.making k { f with wait := f.wait ++ [who], ws := ws' } } B).Nodup := by
    rw [hfs']
    refine nodup_swap hn ?_
    rcases hu.list with e | ⟨g, e, hg⟩
    · exact .inl e
    · refine .inr (.inr ⟨g, e, fun hm => ?_, fun hm => ?_⟩)
      · have := hl g (by rw [hfs]; exact List.mem_append_left _ hm); omega
      · have := hl g (by rw [hfs]; exact List.mem_append_right _ (List.mem_append_right _ hm)); omega
  have hkl : keys (setK S.making k { f with wait := f.wait ++ [who], ws := ws' }) = keys S.making := keys_setK _ _ _
  -- which blocks are not the flight's
  rw [List.nodup_append] at hn
  obtain ⟨n1, n2, n3⟩ := hn
  rw [List.nodup_append] at n2
  obtain ⟨n4, n5, n6⟩ := n2
  have hd : ∀ b, b ∈ foot S B → b ≠ f.blk → b ∉ own f.ws → w'.heap[b]? = w.heap[b]? := fun b hb h1 h2 => hkeep b hb h1 (fun e => h2 (mem_own.2 e))
  have hA : ∀ b ∈ (B.m :: B.bv :: B.bf :: (own B.us ++ (own B.bs ++ (M1.flatMap (fun p => flFoot p.2) ++ [f.blk, f.ch])))), b ≠ f.blk → w'.heap[b]? = w.heap[b]? := fun b hb h1 =>
    hd b (by rw [hfs]; exact List.mem_append_left _ hb) h1 (fun h2 => n3 b hb b (List.mem_append_left _ h2) rfl)
  have hfb : f.blk ∈ (B.m :: B.bv :: B.bf :: (own B.us ++ (own B.bs ++ (M1.flatMap (fun p => flFoot p.2) ++ [f.blk, f.ch])))) := by simp
  have hC : ∀ b ∈ M2.flatMap (fun p => flFoot p.2), w'.heap[b]? = w.heap[b]? := fun b hb =>
    hd b (by rw [hfs]; exact List.mem_append_right _ (List.mem_append_right _ hb)) (fun e => n3 _ hfb b (List.mem_append_right _ hb) e.symm) (fun h2 => n6 b h2 b hb rfl)
  have n1' := n1
  simp only [List.nodup_cons, List.mem_cons, List.mem_append, not_or, List.not_mem_nil, not_false_eq_true, or_false] at n1'
  obtain ⟨⟨m1, m2, m3, m4, m5, m6, m7⟩, ⟨m8, m9, m10, m11, m12, m13⟩, ⟨m14, m15, m16, m17, m18⟩, m19⟩ := n1'
  rw [List.nodup_append] at m19
  obtain ⟨o1, o2, o3⟩ := m19
  rw [List.nodup_append] at o2
  obtain ⟨o4, o5, o6⟩ := o2
  rw [List.nodup_append] at o5
  obtain ⟨o7, o8, o9⟩ := o5
  obtain ⟨D, h1, h2⟩ := h.vals
  obtain ⟨E, h3, h4⟩ := h.flts
  have hlen : (setK S.making k { f with wait := f.wait ++ [who], ws := ws' }).length = S.making.length := by unfold setK; simp
  refine ⟨⟨?_, ⟨D, owns_keep h1 (hA _ (by simp) m12), h2⟩, ⟨E, owns_keep (by rw [hlen]; exact h3) (hA _ (by simp) m17), ?_⟩, ?_, ?_, ?_, hnd, h.ukept, by rw [hkl]; exact h.umaking, by rw [hkl]; exact h.apart⟩, ?_⟩
  · rw [hA _ (by simp) m6]; exact h.obj
  · refine h4.same2 hlen fun k' => ?_
    rw [getK_setK]
    by_cases e3 : k = k'
    · subst e3; simp [hk]
    · simp only [if_neg e3]
  · exact h.used.keep fun b hb => hA b (by simp [mem_own.2 hb]) (fun e => o3 b (mem_own.2 hb) f.blk (by simp) e)
  · have hr := h.began.keep (w' := w') fun b hb => hA b (by simp [mem_own.2 hb]) (fun e => o6 b (mem_own.2 hb) f.blk (by simp) e)
    have hk2 : (setK S.making k { f with wait := f.wait ++ [who], ws := ws' }).map (fun p => Value.string p.1) = S.making.map (fun p => Value.string p.1) := by
      have := congrArg (List.map Value.string) hkl
      simpa [keys, List.map_map, Function.comp_def] using this
    rw [hk2]; exact hr
  · intro p hp
    rw [e2] at hp
    rcases List.mem_append.1 hp with hp | hp
    · refine (h.fls p (by rw [e]; simp [hp])).keep fun b hb => hA b ?_ ?_
      · simp only [List.mem_cons, List.mem_append, List.mem_flatMap]
        exact .inr (.inr (.inr (.inr (.inr (.inl ⟨p, hp, hb⟩)))))
      · exact fun e => o9 b (List.mem_flatMap.2 ⟨p, hp, hb⟩) f.blk (by simp) e
    · rcases List.mem_cons.1 hp with rfl | hp
      · refine ⟨ho, hrow, ?_⟩
        rw [hA f.ch (by simp) (by simp at o8; exact fun e => o8 e.symm)]
        exact hf.chan
      · exact (h.fls p (by rw [e]; simp [hp])).keep fun b hb => hC b (List.mem_flatMap.2 ⟨p, hp, hb⟩)
  · intro b hb
    rw [hfs'] at hb
    rcases List.mem_append.1 hb with hb | hb
    · exact .inl (by rw [hfs]; exact List.mem_append_left _ hb)
    · rcases List.mem_append.1 hb with hb | hb
      · rcases hu.list with e | ⟨g, e, hg⟩
        · rw [e] at hb; exact .inl (hlw b hb)
        · rw [e] at hb; simp at hb; subst hb; exact .inr hg
      · exact .inl (by rw [hfs]; exact List.mem_append_right _ (List.mem_append_right _ hb))
/-- A key is begun. -/
theorem MemoAt.make (h : MemoAt P T w st S B) {k : ByteArray} (hk : k ∉ keys S.making) (hk2 : k ∉ keys S.kept) {f : Fl} {bs' : Value} (hu : NewOwn w B.bs bs')
    (hf1 : w.heap.size ≤ f.blk) (hf2 : w.heap.size ≤ f.ch) (hf3 : f.blk ≠ f.ch) (hf4 : bs'.ownBlock ≠ some f.blk) (hf5 : bs'.ownBlock ≠ some f.ch) (hws : f.ws = .slice none 0 0) (hwt : f.wait = [])
    (ho : w'.heap[B.m]? = some (.cells (memoCells st S { B with bs := bs' }) T.memo (0, 0)))
    (hrow : OffRow T.str w' bs' ((S.making ++ [(k, f)]).map (fun p => Value.string p.1)))
    (hflt : ∃ D, w'.ownsMap P T.str ptrElem B.bf (S.making.length + 1) D ∧ Tie (fun f : Fl => rdp f.blk) D (S.making ++ [(k, f)]))
    (hfo : w'.heap[f.blk]? = some (.cells #[.int .i64 f.who, f.ws, .chan (some f.ch), T.zero] T.fl (0, 0)))
    (hfc : w'.heap[f.ch]? = some (.chan 0 #[] false 0 0 false))
    (hkeep : ∀ b ∈ foot S B, b ≠ B.m → b ≠ B.bf → B.bs.ownBlock ≠ some b → w'.heap[b]? = w.heap[b]?) :
    MemoAt P T w' st { S with making := S.making ++ [(k, f)] } { B with bs := bs' } ∧
      ∀ b ∈ foot { S with making := S.making ++ [(k, f)] } { B with bs := bs' }, b ∈ foot S B ∨ w.heap.size ≤ b := by
  have hn := h.nodup
  have hl := h.lt
  have e1 : foot S B = (B.m :: B.bv :: B.bf :: own B.us) ++ (own B.bs ++ S.making.flatMap (fun p => flFoot p.2)) := by unfold foot; simp
  have e2 : foot { S with making := S.making ++ [(k, f)] } { B with bs := bs' } = (B.m :: B.bv :: B.bf :: own B.us) ++ (own bs' ++ (S.making.flatMap (fun p => flFoot p.2) ++ [f.blk, f.ch])) := by
    unfold foot; simp [flFoot, hws, own, Value.ownBlock]
  have e3 : (B.m :: B.bv :: B.bf :: own B.us) ++ (own bs' ++ (S.making.flatMap (fun p => flFoot p.2) ++ [f.blk, f.ch])) = ((B.m :: B.bv :: B.bf :: own B.us) ++ (own bs' ++ S.making.flatMap (fun p => flFoot p.2))) ++ [f.blk, f.ch] := by simp [List.append_assoc]
  have hsw : ((B.m :: B.bv :: B.bf :: own B.us) ++ (own bs' ++ S.making.flatMap (fun p => flFoot p.2))).Nodup := by
    rw [e1] at hn
    refine nodup_swap hn ?_
    rcases hu.list with e | ⟨g, e, hg⟩
    · exact .inl e
    · refine .inr (.inr ⟨g, e, fun hm => ?_, fun hm => ?_⟩)
      · have := hl g (by rw [e1]; exact List.mem_append_left _ hm); omega
      · have := hl g (by rw [e1]; exact List.mem_append_right _ (List.mem_append_right _ hm)); omega
  have hin : ∀ b ∈ (B.m :: B.bv :: B.bf :: own B.us) ++ (own bs' ++ S.making.flatMap (fun p => flFoot p.2)), b ∈ foot S B ∨ (w.heap.size ≤ b ∧ bs'.ownBlock = some b) := by
    intro b hb
    rcases List.mem_append.1 hb with hb | hb
    · exact .inl (by rw [e1]; exact List.mem_append_left _ hb)
    · rcases List.mem_append.1 hb with hb | hb
      · rcases hu.list with e | ⟨g, e, hg⟩
        · rw [e] at hb; exact .inl (by rw [e1]; exact List.mem_append_right _ (List.mem_append_left _ hb))
        · have hb2 := mem_own.1 hb
          rw [e] at hb; simp at hb; subst hb; exact .inr ⟨hg, hb2⟩
      · exact .inl (by rw [e1]; exact List.mem_append_right _ (List.mem_append_right _ hb))
  have hnd : (foot { S with making := S.making ++ [(k, f)] } { B with bs := bs' }).Nodup := by
    rw [e2, e3, List.nodup_append]
    refine ⟨hsw, by simp [hf3], fun a ha b hb e => ?_⟩
    subst e
    rcases hin a ha with h1 | ⟨_, h1⟩
    · have := hl a h1
      simp at hb
      rcases hb with rfl | rfl <;> omega
    · simp at hb
      rcases hb with rfl | rfl
      · exact hf4 h1
      · exact hf5 h1
  have hn2 := hn
  unfold foot at hn2
  simp only [List.nodup_cons, List.mem_cons, List.mem_append, not_or] at hn2
  obtain ⟨⟨n1, n2, n3, n4, n5⟩, ⟨n6, n7, n8, n9⟩, ⟨n10, n11, n12⟩, n13⟩ := hn2
  rw [List.nodup_append] at n13
  obtain ⟨n14, n15, n16⟩ := n13
  rw [List.nodup_append] at n15
  obtain ⟨n17, n18, n19⟩ := n15
  have hd : ∀ b, b ∈ foot S B → b ≠ B.m → b ≠ B.bf → b ∉ own B.bs → w'.heap[b]? = w.heap[b]? := fun b hb h1 h2 h3 => hkeep b hb h1 h2 (fun e => h3 (mem_own.2 e))
  obtain ⟨D, h1, h2⟩ := h.vals
  obtain ⟨E, h3, h4⟩ := hflt
  refine ⟨⟨ho, ⟨D, owns_keep h1 (hd _ (by simp [foot]) (fun e => n1 e.symm) n6 n8), h2⟩, ⟨E, by simpa using h3, h4⟩, ?_, hrow, ?_, hnd, h.ukept, ?_, ?_⟩, ?_⟩
  · exact h.used.keep fun b hb => hd b (foot_us hb) (fun e => n3 (e ▸ mem_own.2 hb)) (fun e => n10 (e ▸ mem_own.2 hb)) (fun h2 => n16 b (mem_own.2 hb) b (List.mem_append_left _ h2) rfl)
  · intro p hp
    rcases List.mem_append.1 hp with hp | hp
    · refine (h.fls p hp).keep fun b hb => hd b (foot_fl hp hb) ?_ ?_ ?_
      · exact fun e => n5 (e ▸ List.mem_flatMap.2 ⟨p, hp, hb⟩)
      · exact fun e => n12 (e ▸ List.mem_flatMap.2 ⟨p, hp, hb⟩)
      · exact fun h2 => n19 b h2 b (List.mem_flatMap.2 ⟨p, hp, hb⟩) rfl
    · simp at hp; subst hp
      exact ⟨hfo, by rw [hws, hwt]; exact OffRow.nil_, hfc⟩
  · rw [keys_app]; exact nodup_app h.umaking hk
  · intro k' hk'
    rw [keys_app]
    intro hm
    rcases List.mem_append.1 hm with hm | hm
    · exact h.apart k' hk' hm
    · simp at hm; subst hm; exact hk2 hk'
  · intro b hb
    rw [e2, e3] at hb
    rcases List.mem_append.1 hb with hb | hb
    · rcases hin b hb with h1 | ⟨h1, _⟩
      · exact .inl h1
      · exact .inr h1
    · simp at hb
      rcases hb with rfl | rfl
      · exact .inr hf1
      · exact .inr hf2
end
end Go.Proofs.Ytjghbcligjiaaaa
