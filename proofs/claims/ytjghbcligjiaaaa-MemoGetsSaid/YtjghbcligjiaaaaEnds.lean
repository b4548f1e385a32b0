/- How the walks over a memo end. Generic over the program and the values. -/
import Derived.Test.YtjghbcligjiaaaaLook
import Derived.Conc.SmallLaws
namespace Go.Proofs.Ytjghbcligjiaaaa
open Go.RowKit Go.Maps Go.Sort
set_option linter.unusedVariables false
set_option linter.unusedSimpArgs false
section
variable {τ : Type} {P : Program} {T : MT τ} {w : World} {st : Int} {S : MS τ} {B : MB}
theorem MemoAt.ne_us (h : MemoAt P T w st S B) : B.us.ownBlock ≠ some B.m := by
  have hn := h.nodup
  unfold foot at hn
  simp only [List.nodup_cons, List.mem_cons, List.mem_append, not_or] at hn
  exact fun e => hn.1.2.2.1 (mem_own.2 e)
theorem MemoAt.ne_bs (h : MemoAt P T w st S B) : B.bs.ownBlock ≠ some B.m := by
  have hn := h.nodup
  unfold foot at hn
  simp only [List.nodup_cons, List.mem_cons, List.mem_append, not_or] at hn
  exact fun e => hn.1.2.2.2.1 (mem_own.2 e)
theorem MemoAt.ne_bv (h : MemoAt P T w st S B) : B.bv ≠ B.m := by
  have hn := h.nodup
  unfold foot at hn
  simp only [List.nodup_cons, List.mem_cons, List.mem_append, not_or] at hn
  exact fun e => hn.1.1 e.symm
theorem MemoAt.ne_bf (h : MemoAt P T w st S B) : B.bf ≠ B.m := by
  have hn := h.nodup
  unfold foot at hn
  simp only [List.nodup_cons, List.mem_cons, List.mem_append, not_or] at hn
  exact fun e => hn.1.2.1 e.symm
theorem MemoAt.ne_bvbf (h : MemoAt P T w st S B) : B.bv ≠ B.bf := by
  have hn := h.nodup
  unfold foot at hn
  simp only [List.nodup_cons, List.mem_cons, List.mem_append, not_or] at hn
  exact hn.2.1.1
theorem MemoAt.fl_out (h : MemoAt P T w st S B) {k : ByteArray} {f : Fl} (hf : getK S.making k = some f) : ∀ b ∈ flFoot f, b ≠ B.m ∧ b ≠ B.bv ∧ b ≠ B.bf ∧ B.us.ownBlock ≠ some b ∧ B.bs.ownBlock ≠ some b := by
  have hn := h.nodup
  intro b hb
  have hm : b ∈ S.making.flatMap (fun p => flFoot p.2) := List.mem_flatMap.2 ⟨_, getK_mem hf, hb⟩
  unfold foot at hn
  simp only [List.nodup_cons, List.mem_cons, List.mem_append, not_or] at hn
  obtain ⟨⟨n1, n2, n3, n4, n5⟩, ⟨n6, n7, n8, n9⟩, ⟨n10, n11, n12⟩, n13⟩ := hn
  rw [List.nodup_append] at n13
  obtain ⟨n14, n15, n16⟩ := n13
  rw [List.nodup_append] at n15
  obtain ⟨n17, n18, n19⟩ := n15
  exact ⟨fun e => n5 (e ▸ hm), fun e => n9 (e ▸ hm), fun e => n12 (e ▸ hm), fun e => n16 b (mem_own.2 e) b (List.mem_append_right _ hm) rfl, fun e => n19 b (mem_own.2 e) b hm rfl⟩
theorem MemoAt.fl_nodup (h : MemoAt P T w st S B) {k : ByteArray} {f : Fl} (hf : getK S.making k = some f) : (flFoot f).Nodup := by
  have hn := h.nodup
  obtain ⟨M1, M2, e, _, _⟩ := split_at hf h.umaking
  unfold foot at hn
  rw [e] at hn
  simp only [List.nodup_cons] at hn
  have h1 := hn.2.2.2
  rw [List.nodup_append] at h1
  have h2 := h1.2.1
  rw [List.nodup_append] at h2
  have h3 := h2.2.1
  rw [List.flatMap_append, List.nodup_append] at h3
  have h4 := h3.2.1
  rw [List.flatMap_cons, List.nodup_append] at h4
  exact h4.1
theorem MemoAt.us_bs (h : MemoAt P T w st S B) {b : Nat} (hb : B.us.ownBlock = some b) : B.bs.ownBlock ≠ some b ∧ b ≠ B.bv ∧ b ≠ B.bf ∧ b ≠ B.m := by
  have hn := h.nodup
  unfold foot at hn
  simp only [List.nodup_cons, List.mem_cons, List.mem_append, not_or] at hn
  obtain ⟨⟨n1, n2, n3, n4, n5⟩, ⟨n6, n7, n8, n9⟩, ⟨n10, n11, n12⟩, n13⟩ := hn
  rw [List.nodup_append] at n13
  obtain ⟨n14, n15, n16⟩ := n13
  exact ⟨fun e => n16 b (mem_own.2 hb) b (List.mem_append_left _ (mem_own.2 e)) rfl, fun e => n7 (e ▸ mem_own.2 hb), fun e => n10 (e ▸ mem_own.2 hb), fun e => n3 (e ▸ mem_own.2 hb)⟩
theorem MemoAt.bs_us (h : MemoAt P T w st S B) {b : Nat} (hb : B.bs.ownBlock = some b) : B.us.ownBlock ≠ some b ∧ b ≠ B.bv ∧ b ≠ B.bf ∧ b ≠ B.m := by
  have hn := h.nodup
  unfold foot at hn
  simp only [List.nodup_cons, List.mem_cons, List.mem_append, not_or] at hn
  obtain ⟨⟨n1, n2, n3, n4, n5⟩, ⟨n6, n7, n8, n9⟩, ⟨n10, n11, n12⟩, n13⟩ := hn
  rw [List.nodup_append] at n13
  obtain ⟨n14, n15, n16⟩ := n13
  exact ⟨fun e => n16 b (mem_own.2 e) b (List.mem_append_left _ (mem_own.2 hb)) rfl, fun e => n8 (e ▸ mem_own.2 hb), fun e => n11 (e ▸ mem_own.2 hb), fun e => n4 (e ▸ mem_own.2 hb)⟩
theorem foot_m : B.m ∈ foot S B := by simp [foot]
theorem foot_bv : B.bv ∈ foot S B := by simp [foot]
theorem foot_bf : B.bf ∈ foot S B := by simp [foot]
theorem OffRow.kept {e : TypeId} {w w' : World} {v : Value} {l : List Value} (h : OffRow e w v l) {row : Option Nat} (hg : w.grownBy w' row) (hr : ∀ k, v.ownBlock = some k → some k ≠ row) : OffRow e w' v l :=
  h.keep fun k hk => hg.block k (h.lt k hk) (hr k hk)
/-- ask of a key that is kept: behind the two calls and the store. -/
theorem end_hit (h : MemoAt P T w st S B) {k : ByteArray} {x : τ} (hk : getK S.kept k = some x) {w1 w2 : World} {o : Obj} {v1 : Value} {g off n cap : Nat} {l : List Value}
    (hg1 : w.grownBy w1 B.us.ownBlock) (ho1 : v1.ownBlock = B.us.ownBlock) (hg2 : (w1.alloc o).grownBy w2 v1.ownBlock) (hb2 : v1.ownBlock = some g ∨ g = (w1.alloc o).heap.size)
    (hr2 : OffRow T.str w2 (.slice (some ⟨g, off, none⟩) n cap) l) (hl : l = (dropK S.kept k ++ [(k, x)]).map (fun p => Value.string p.1)) :
    MemoAt P T (w2.setCell ⟨B.m, 4, none⟩ (.slice (some ⟨g, off, none⟩) n cap)) st { S with kept := dropK S.kept k ++ [(k, x)] } { B with us := .slice (some ⟨g, off, none⟩) n cap } ∧
      NewOwn w B.us (.slice (some ⟨g, off, none⟩) n cap) ∧ Only (foot S B) w (w2.setCell ⟨B.m, 4, none⟩ (.slice (some ⟨g, off, none⟩) n cap)) := by
  subst hl
  have hs1 := hg1.size
  have hs2 := hg2.size
  have hmlt := h.lt B.m foot_m
  have hnm := h.ne_us
  rw [World.size_alloc] at hs2
  have hu : NewOwn w B.us (.slice (some ⟨g, off, none⟩) n cap) := by
    rcases hb2 with e | e
    · exact .inl (by rw [← ho1, e]; rfl)
    · exact .inr ⟨g, rfl, by rw [e, World.size_alloc]; omega⟩
  have hgm : g ≠ B.m := by
    rcases hb2 with e | e
    · intro e2; rw [ho1, e2] at e; exact hnm e
    · rw [World.size_alloc] at e; omega
  have hkeep : ∀ b, b < w.heap.size → B.us.ownBlock ≠ some b → w2.heap[b]? = w.heap[b]? := fun b hb hne => by
    rw [hg2.block b (by rw [World.size_alloc]; omega) (fun e => hne (by rw [← ho1, ← e])), Go.heap_alloc_old _ _ (by omega), hg1.block b hb (fun e => hne e.symm)]
  have hm2 : w2.heap[B.m]? = some (.cells (memoCells st S B) T.memo (0, 0)) := (hkeep B.m hmlt hnm).trans h.obj
  refine ⟨h.hit hk hu (set_heap hm2) (hr2.keep fun q hq => set_other (by simp [Value.ownBlock] at hq; omega)) fun b hb h1 h2 => (set_other h1).trans (hkeep b (h.lt b hb) h2), hu, ?_⟩
  refine (Only.grown hg1 fun q hq => foot_us hq).trans (alloc_only.trans ((Only.grown hg2 fun q hq => foot_us (by rw [← ho1]; exact hq)).trans (set_only foot_m)))
theorem fl_foot {k : ByteArray} {f : Fl} (hf : getK S.making k = some f) {b : Nat} (h : b ∈ flFoot f) : b ∈ foot S B := foot_fl (getK_mem hf) h
theorem MemoAt.fl_ws (h : MemoAt P T w st S B) {k : ByteArray} {f : Fl} (hf : getK S.making k = some f) : f.ws.ownBlock ≠ some f.blk ∧ f.ws.ownBlock ≠ some f.ch ∧ f.ch ≠ f.blk := by
  have hn := h.fl_nodup hf
  unfold flFoot at hn
  simp only [List.nodup_cons, List.mem_cons, not_or] at hn
  exact ⟨fun e => hn.1.2 (mem_own.2 e), fun e => hn.2.1 (mem_own.2 e), fun e => hn.1.1 e.symm⟩
/-- ask of a key that another makes: behind the append and the store. -/
theorem end_wait (h : MemoAt P T w st S B) {k : ByteArray} {f : Fl} (hf : getK S.making k = some f) {who : Int} {W w2 : World} {g off n cap : Nat} {l : List Value} {o : Obj}
    (hW : Only [] w W) (hg2 : (W.alloc o).grownBy w2 f.ws.ownBlock) (hb2 : f.ws.ownBlock = some g ∨ g = (W.alloc o).heap.size)
    (hr2 : OffRow T.int w2 (.slice (some ⟨g, off, none⟩) n cap) l) (hl : l = (f.wait ++ [who]).map (Value.int .i64)) :
    (MemoAt P T (w2.setCell ⟨f.blk, 1, none⟩ (.slice (some ⟨g, off, none⟩) n cap)) st { S with making := setK S.making k { f with wait := f.wait ++ [who], ws := .slice (some ⟨g, off, none⟩) n cap } } B ∧
      ∀ b ∈ foot { S with making := setK S.making k { f with wait := f.wait ++ [who], ws := .slice (some ⟨g, off, none⟩) n cap } } B, b ∈ foot S B ∨ w.heap.size ≤ b) ∧
      Only (foot S B) w (w2.setCell ⟨f.blk, 1, none⟩ (.slice (some ⟨g, off, none⟩) n cap)) := by
  subst hl
  have hs1 := hW.size
  have hs2 := hg2.size
  rw [World.size_alloc] at hs2
  obtain ⟨q1, q2, q3⟩ := h.fl_ws hf
  have hblt := h.lt f.blk (fl_foot hf (by simp [flFoot]))
  have hu : NewOwn w f.ws (.slice (some ⟨g, off, none⟩) n cap) := by
    rcases hb2 with e | e
    · exact .inl (by rw [e]; rfl)
    · exact .inr ⟨g, rfl, by rw [e, World.size_alloc]; omega⟩
  have hgm : g ≠ f.blk := by
    rcases hb2 with e | e
    · intro e2; rw [e2] at e; exact q1 e
    · rw [World.size_alloc] at e; omega
  have hkeep : ∀ b, b < w.heap.size → f.ws.ownBlock ≠ some b → w2.heap[b]? = w.heap[b]? := fun b hb hne => by
    rw [hg2.block b (by rw [World.size_alloc]; omega) (fun e => hne e.symm), Go.heap_alloc_old _ _ (by omega), hW.block b hb (by simp)]
  have hm2 := (hkeep f.blk hblt q1).trans (h.fls _ (getK_mem hf)).obj
  refine ⟨h.wait hf hu (set_heap hm2) (hr2.keep fun q hq => set_other (by simp [Value.ownBlock] at hq; omega)) fun b hb h1 h2 => (set_other h1).trans (hkeep b (h.lt b hb) h2), ?_⟩
  exact (hW.mono (fun x hx => by cases hx)).trans (alloc_only.trans ((Only.grown hg2 fun q hq => fl_foot hf (by simp [flFoot, mem_own.2 hq])).trans (set_only (fl_foot hf (by simp [flFoot])))))
/-- ask of a key that nobody makes: behind the map's turn, the append and the store. -/
theorem end_make (h : MemoAt P T w st S B) {k : ByteArray} (hk : getK S.kept k = none) (hf : getK S.making k = none) {who : Int} {w1 w2 : World} {o : Obj} {g off n cap : Nat} {l : List Value} {E : DataW Unit} {m : Nat}
    (ho1 : w1.ownsMap P T.str ptrElem B.bf m (E.put (litS k) (rdp (w.heap.size + 1)))) (hE : w.ownsMap P T.str ptrElem B.bf S.making.length E) (hT : Tie (fun f : Fl => rdp f.blk) E S.making)
    (hg1 : ((w.alloc (.chan 0 #[] false 0 0 false)).alloc (.cells #[.int .i64 who, .slice none 0 0, .chan (some w.heap.size), T.zero] T.fl)).grownBy w1 (some B.bf))
    (hg2 : (w1.alloc o).grownBy w2 B.bs.ownBlock) (hb2 : B.bs.ownBlock = some g ∨ g = (w1.alloc o).heap.size)
    (hr2 : OffRow T.str w2 (.slice (some ⟨g, off, none⟩) n cap) l) (hl : l = S.making.map (fun p => Value.string p.1) ++ [.string k]) :
    ∃ f : Fl, f.blk = w.heap.size + 1 ∧ f.who = who ∧ f.wait = [] ∧
      MemoAt P T (w2.setCell ⟨B.m, 6, none⟩ (.slice (some ⟨g, off, none⟩) n cap)) st { S with making := S.making ++ [(k, f)] } { B with bs := .slice (some ⟨g, off, none⟩) n cap } ∧
      (∀ b ∈ foot { S with making := S.making ++ [(k, f)] } { B with bs := .slice (some ⟨g, off, none⟩) n cap }, b ∈ foot S B ∨ w.heap.size ≤ b) ∧
      Only (foot S B) w (w2.setCell ⟨B.m, 6, none⟩ (.slice (some ⟨g, off, none⟩) n cap)) := by
  subst hl
  obtain ⟨W, hW⟩ : ∃ W, (w.alloc (.chan 0 #[] false 0 0 false)).alloc (.cells #[.int .i64 who, .slice none 0 0, .chan (some w.heap.size), T.zero] T.fl) = W := ⟨_, rfl⟩
  have hWs : W.heap.size = w.heap.size + 2 := by rw [← hW, World.size_alloc, World.size_alloc]
  have hWo : ∀ b, b < w.heap.size → W.heap[b]? = w.heap[b]? := fun b hb => by
    rw [← hW, Go.heap_alloc_old _ _ (by rw [World.size_alloc]; omega), Go.heap_alloc_old _ _ hb]
  have hWc : W.heap[w.heap.size]? = some (.chan 0 #[] false 0 0 false) := by
    rw [← hW, Go.heap_alloc_old _ _ (by rw [World.size_alloc]; omega)]; exact heap_alloc_new w _
  have hWf : W.heap[w.heap.size + 1]? = some (.cells #[.int .i64 who, .slice none 0 0, .chan (some w.heap.size), T.zero] T.fl (0, 0)) := by
    rw [← hW]
    have := heap_alloc_new (w.alloc (.chan 0 #[] false 0 0 false)) (.cells #[.int .i64 who, .slice none 0 0, .chan (some w.heap.size), T.zero] T.fl)
    rw [World.size_alloc] at this
    exact this
  have hWonly : Only (foot S B) w W := by rw [← hW]; exact alloc_only.trans alloc_only
  rw [hW] at hg1
  have hs1 := hg1.size
  have hs2 := hg2.size
  rw [World.size_alloc] at hs2
  have hbf := h.lt B.bf foot_bf
  have hbm := h.lt B.m foot_m
  have hbs : ∀ b, B.bs.ownBlock = some b → b < w.heap.size := fun b hb => h.lt b (foot_bs hb)
  have hkeep : ∀ b, b < W.heap.size → b ≠ B.bf → B.bs.ownBlock ≠ some b → w2.heap[b]? = W.heap[b]? := fun b hb h1 h2 => by
    rw [hg2.block b (by rw [World.size_alloc]; omega) (fun e => h2 e.symm), Go.heap_alloc_old _ _ (by omega), hg1.block b hb (fun e => h1 (by simpa using e))]
  have hgn : g ≠ B.m ∧ g ≠ w.heap.size ∧ g ≠ w.heap.size + 1 := by
    rcases hb2 with e | e
    · have := hbs g e
      exact ⟨fun e2 => h.ne_bs (e2 ▸ e), by omega, by omega⟩
    · rw [World.size_alloc] at e
      exact ⟨by omega, by omega, by omega⟩
  have hu : NewOwn w B.bs (.slice (some ⟨g, off, none⟩) n cap) := by
    rcases hb2 with e | e
    · exact .inl (by rw [e]; rfl)
    · exact .inr ⟨g, rfl, by rw [e, World.size_alloc]; omega⟩
  have hm2 : w2.heap[B.m]? = some (.cells (memoCells st S B) T.memo (0, 0)) := (hkeep B.m (by omega) (fun e => h.ne_bf e.symm) h.ne_bs).trans ((hWo _ hbm).trans h.obj)
  have hnew : ∀ b, w.heap.size ≤ b → b < w.heap.size + 2 → (w2.setCell ⟨B.m, 6, none⟩ (.slice (some ⟨g, off, none⟩) n cap)).heap[b]? = W.heap[b]? := fun b h1 h2 =>
    (set_other (by omega)).trans (hkeep b (by omega) (by omega) (fun e => by have := hbs b e; omega))
  have hmk : k ∉ keys S.making := getK_none.1 hf
  refine ⟨⟨who, [], w.heap.size + 1, .slice none 0 0, w.heap.size⟩, rfl, rfl, rfl, ?_⟩
  have hflt : ∃ D, (w2.setCell ⟨B.m, 6, none⟩ (.slice (some ⟨g, off, none⟩) n cap)).ownsMap P T.str ptrElem B.bf (S.making.length + 1) D ∧ Tie (fun f : Fl => rdp f.blk) D (S.making ++ [(k, (⟨who, [], w.heap.size + 1, .slice none 0 0, w.heap.size⟩ : Fl))]) := by
    have ht := hT.put (k := k) (⟨who, [], w.heap.size + 1, .slice none 0 0, w.heap.size⟩ : Fl) hmk
    refine ⟨_, ?_, ht⟩
    have e1 := owns_tight ho1
    have e2 := ht.size
    rw [List.length_append, List.length_singleton] at e2
    simp only at e2
    rw [e2] at e1
    refine owns_keep e1 ((set_other h.ne_bf).trans ?_)
    have hlt1 := ho1.lt
    rw [hg2.block B.bf (by rw [World.size_alloc]; omega) (fun e => (h.bs_us e.symm).2.2.1 rfl), Go.heap_alloc_old _ _ hlt1]
  obtain ⟨a1, a2⟩ := h.make (w' := w2.setCell ⟨B.m, 6, none⟩ (.slice (some ⟨g, off, none⟩) n cap)) hmk (getK_none.1 hk) (f := ⟨who, [], w.heap.size + 1, .slice none 0 0, w.heap.size⟩) hu (by simp) (by simp) (by simp) (by simp [Value.ownBlock]; exact hgn.2.2) (by simp [Value.ownBlock]; exact hgn.2.1) rfl rfl
    (set_heap hm2) (by rw [List.map_append]; exact hr2.keep fun q hq => set_other (by simp [Value.ownBlock] at hq; rw [← hq]; exact hgn.1)) hflt ((hnew _ (by simp) (by simp)).trans hWf) ((hnew _ (by simp) (by simp)).trans hWc)
    (fun b hb h1 h2 h3 => (set_other h1).trans ((hkeep b (by have := h.lt b hb; omega) h2 h3).trans (hWo b (h.lt b hb))))
  refine ⟨a1, a2, ?_⟩
  exact hWonly.trans ((Only.grown hg1 fun q hq => by cases hq; exact foot_bf).trans (alloc_only.trans ((Only.grown hg2 fun q hq => foot_bs hq).trans (set_only foot_m))))
def AskMade (P : Program) (T : MT τ) (S : MS τ) (B : MB) (k : ByteArray) (who : Int) (st : Int) (w : World) (b : Nat) (w' : World) : Prop :=
  ∃ f bs', f.blk = b ∧ f.who = who ∧ f.wait = [] ∧ MemoAt P T w' st { S with making := S.making ++ [(k, f)] } { B with bs := bs' } ∧
      (∀ b ∈ foot { S with making := S.making ++ [(k, f)] } { B with bs := bs' }, b ∈ foot S B ∨ w.heap.size ≤ b) ∧ Only (foot S B) w w'
end
end Go.Proofs.Ytjghbcligjiaaaa
