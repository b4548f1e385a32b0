/- A memo in memory amid a call of give: step by step. Generic over the program and the values. -/
import Derived.Test.YtjghbcligjiaaaaEnds
namespace Go.Proofs.Ytjghbcligjiaaaa
open Go.RowKit Go.Maps Go.Sort
set_option linter.unusedVariables false
set_option linter.unusedSimpArgs false
theorem OffRow.shape {e : TypeId} {w : World} {v : Value} {l : List Value} (h : OffRow e w v l) : ∃ A n c, v = .slice A n c := by
  obtain ⟨A, c, h, _⟩ := h.len
  exact ⟨_, _, _, h⟩
/-- Amid the call: what the memo's fields hold now. -/
structure GS {τ : Type} (P : Program) (T : MT τ) (st : Int) (S : MS τ) (B : MB) (w0 : World) (uv : Value) (ul : List Value) (bv : Value) (bl : List Value) (D E : DataW Unit) (n m : Nat) (w : World) : Prop where
  obj : w.heap[B.m]? = some (.cells (memoCells st S { B with us := uv, bs := bv }) T.memo (0, 0))
  vals : w.ownsMap P T.str (plainElem P T.val) B.bv n D
  flts : w.ownsMap P T.str ptrElem B.bf m E
  used : OffRow T.str w uv ul
  began : OffRow T.str w bv bl
  uo : NewOwn w0 B.us uv
  bo : bv.ownBlock = B.bs.ownBlock
  keep : ∀ b, b < w0.heap.size → b ≠ B.m → b ≠ B.bv → b ≠ B.bf → B.us.ownBlock ≠ some b → B.bs.ownBlock ≠ some b → w.heap[b]? = w0.heap[b]?
  only : Only (foot S B) w0 w
section
variable {τ : Type} {P : Program} {T : MT τ} {st : Int} {S : MS τ} {B : MB} {w0 w w1 w2 : World} {uv bv uv' bv' : Value} {ul bl ul' bl' : List Value} {D E D' E' : DataW Unit} {n m n' m' : Nat}
theorem GS.start (h : MemoAt P T w st S B) {D E : DataW Unit} (hD : w.ownsMap P T.str (plainElem P T.val) B.bv S.kept.length D) (hE : w.ownsMap P T.str ptrElem B.bf S.making.length E) :
    GS P T st S B w B.us (S.kept.map (fun p => Value.string p.1)) B.bs (S.making.map (fun p => Value.string p.1)) D E S.kept.length S.making.length w :=
  ⟨h.obj, hD, hE, h.used, h.began, .inl rfl, rfl, fun _ _ _ _ _ _ _ => rfl, Only.refl _ _⟩
/-- Which of the memo's blocks is which, now. -/
theorem GS.apart (H0 : MemoAt P T w0 st S B) (h : GS P T st S B w0 uv ul bv bl D E n m w) :
    (∀ q, uv.ownBlock = some q → q ≠ B.m ∧ q ≠ B.bv ∧ q ≠ B.bf ∧ bv.ownBlock ≠ some q) ∧ (∀ q, bv.ownBlock = some q → q ≠ B.m ∧ q ≠ B.bv ∧ q ≠ B.bf ∧ uv.ownBlock ≠ some q) := by
  have hbl : ∀ q, B.bs.ownBlock = some q → q < w0.heap.size := fun q hq => H0.lt q (foot_bs hq)
  have h1 : ∀ q, uv.ownBlock = some q → q ≠ B.m ∧ q ≠ B.bv ∧ q ≠ B.bf ∧ bv.ownBlock ≠ some q := by
    intro q hq
    rcases h.uo with e | ⟨g, e, hg⟩
    · rw [e] at hq
      obtain ⟨a, b, c, d⟩ := H0.us_bs hq
      exact ⟨d, b, c, by rw [h.bo]; exact a⟩
    · rw [e] at hq; cases hq
      have h2 := H0.lt _ foot_m
      have h3 := H0.lt _ foot_bv
      have h4 := H0.lt _ foot_bf
      exact ⟨by omega, by omega, by omega, fun e => by rw [h.bo] at e; have := hbl _ e; omega⟩
  refine ⟨h1, fun q hq => ?_⟩
  have hq2 := hq
  rw [h.bo] at hq
  obtain ⟨a, b, c, d⟩ := H0.bs_us hq
  exact ⟨d, b, c, fun e => (h1 q e).2.2.2 hq2⟩
theorem GS.lt (h : GS P T st S B w0 uv ul bv bl D E n m w) : B.m < w.heap.size ∧ B.bv < w.heap.size ∧ B.bf < w.heap.size ∧ ∀ q, bv.ownBlock = some q → q < w.heap.size :=
  ⟨(Array.getElem?_eq_some_iff.1 h.obj).1, h.vals.lt, h.flts.lt, h.began.lt⟩
theorem GS.cells (h : GS P T st S B w0 uv ul bv bl D E n m w) : Cells w B.m st S.most B.bv B.bf uv bv := cells_of (B := { B with us := uv, bs := bv }) h.obj
theorem GS.delF (H0 : MemoAt P T w0 st S B) (h : GS P T st S B w0 uv ul bv bl D E n m w) (ho : w1.ownsMap P T.str ptrElem B.bf m' E') (ht : w.mapTurned w1 B.bf) : GS P T st S B w0 uv ul bv bl D E' n m' w1 := by
  have hg := ht.grown
  obtain ⟨a1, a2⟩ := h.apart H0
  obtain ⟨l1, l2, l3, l4⟩ := h.lt
  refine ⟨(hg.block _ l1 (fun e => H0.ne_bf (Option.some.inj e).symm)).trans h.obj, owns_keep h.vals (hg.block _ l2 (fun e => H0.ne_bvbf (Option.some.inj e))), ho, h.used.kept hg (fun q hq e => (a1 q hq).2.2.1 (Option.some.inj e)), h.began.kept hg (fun q hq e => (a2 q hq).2.2.1 (Option.some.inj e)), h.uo, h.bo, fun b hb h1 h2 h3 h4 h5 => ?_, h.only.trans (turned_only ht foot_bf)⟩
  exact (hg.block b (Nat.lt_of_lt_of_le hb h.only.size) (fun e => h3 (Option.some.inj e))).trans (h.keep b hb h1 h2 h3 h4 h5)
theorem GS.turnV (H0 : MemoAt P T w0 st S B) (h : GS P T st S B w0 uv ul bv bl D E n m w) (ho : w1.ownsMap P T.str (plainElem P T.val) B.bv n' D') (ht : w.mapTurned w1 B.bv) : GS P T st S B w0 uv ul bv bl D' E n' m w1 := by
  have hg := ht.grown
  obtain ⟨a1, a2⟩ := h.apart H0
  obtain ⟨l1, l2, l3, l4⟩ := h.lt
  refine ⟨(hg.block _ l1 (fun e => H0.ne_bv (Option.some.inj e).symm)).trans h.obj, ho, owns_keep h.flts (hg.block _ l3 (fun e => H0.ne_bvbf (Option.some.inj e).symm)), h.used.kept hg (fun q hq e => (a1 q hq).2.1 (Option.some.inj e)), h.began.kept hg (fun q hq e => (a2 q hq).2.1 (Option.some.inj e)), h.uo, h.bo, fun b hb h1 h2 h3 h4 h5 => ?_, h.only.trans (turned_only ht foot_bv)⟩
  exact (hg.block b (Nat.lt_of_lt_of_le hb h.only.size) (fun e => h2 (Option.some.inj e))).trans (h.keep b hb h1 h2 h3 h4 h5)
/-- Another list of keys that are being made, stored. -/
theorem GS.setB (H0 : MemoAt P T w0 st S B) (h : GS P T st S B w0 uv ul bv bl D E n m w) (hr : OffRow T.str w1 bv' bl') (ho : bv'.ownBlock = bv.ownBlock) (hg : w.grownBy w1 bv.ownBlock) : GS P T st S B w0 uv ul bv' bl' D E n m (w1.setCell ⟨B.m, 6, none⟩ bv') := by
  obtain ⟨a1, a2⟩ := h.apart H0
  obtain ⟨l1, l2, l3, l4⟩ := h.lt
  have hnm : bv.ownBlock ≠ some B.m := fun e => (a2 _ e).1 rfl
  have hm1 := (hg.block B.m l1 (fun e => hnm e.symm)).trans h.obj
  have hk : ∀ b, b < w.heap.size → b ≠ B.m → bv.ownBlock ≠ some b → (w1.setCell ⟨B.m, 6, none⟩ bv').heap[b]? = w.heap[b]? := fun b hb h1 h2 => (set_other h1).trans (hg.block b hb (fun e => h2 e.symm))
  refine ⟨set_heap hm1, owns_keep h.vals (hk _ l2 H0.ne_bv (fun e => (a2 _ e).2.1 rfl)), owns_keep h.flts (hk _ l3 H0.ne_bf (fun e => (a2 _ e).2.2.1 rfl)), h.used.keep (fun q hq => hk q (h.used.lt q hq) (a1 q hq).1 (a1 q hq).2.2.2), hr.keep (fun q hq => set_other (by rw [ho] at hq; exact (a2 q hq).1)), h.uo, ho.trans h.bo, fun b hb h1 h2 h3 h4 h5 => ?_, ?_⟩
  · exact (hk b (Nat.lt_of_lt_of_le hb h.only.size) h1 (by rw [h.bo]; exact h5)).trans (h.keep b hb h1 h2 h3 h4 h5)
  · exact h.only.trans ((Only.grown hg (fun q hq => foot_bs (by rw [← h.bo]; exact hq))).trans (set_only foot_m))
/-- Another list of kept keys, stored. -/
theorem GS.setU (H0 : MemoAt P T w0 st S B) (h : GS P T st S B w0 uv ul bv bl D E n m w) (hr : OffRow T.str w1 uv' ul') (ho : uv'.ownBlock = uv.ownBlock ∨ ∃ g, uv'.ownBlock = some g ∧ w.heap.size ≤ g) (hg : w.grownBy w1 uv.ownBlock) : GS P T st S B w0 uv' ul' bv bl D E n m (w1.setCell ⟨B.m, 4, none⟩ uv') := by
  obtain ⟨a1, a2⟩ := h.apart H0
  obtain ⟨l1, l2, l3, l4⟩ := h.lt
  have hnm : uv.ownBlock ≠ some B.m := fun e => (a1 _ e).1 rfl
  have hm1 := (hg.block B.m l1 (fun e => hnm e.symm)).trans h.obj
  have hk : ∀ b, b < w.heap.size → b ≠ B.m → uv.ownBlock ≠ some b → (w1.setCell ⟨B.m, 4, none⟩ uv').heap[b]? = w.heap[b]? := fun b hb h1 h2 => (set_other h1).trans (hg.block b hb (fun e => h2 e.symm))
  have hu : NewOwn w0 B.us uv' := by
    rcases ho with e | ⟨g, e, hgg⟩
    · rcases h.uo with e2 | ⟨g, e2, hgg⟩
      · exact .inl (e.trans e2)
      · exact .inr ⟨g, e.trans e2, hgg⟩
    · exact .inr ⟨g, e, Nat.le_trans h.only.size hgg⟩
  have hun : ∀ q, uv'.ownBlock = some q → q ≠ B.m := fun q hq => by
    rcases ho with e | ⟨g, e, hgg⟩
    · rw [e] at hq; exact (a1 q hq).1
    · rw [e] at hq; cases hq; omega
  have hus : ∀ b, b < w0.heap.size → B.us.ownBlock ≠ some b → uv.ownBlock ≠ some b := fun b hb h4 e => by
    rcases h.uo with e2 | ⟨g, e2, hgg⟩
    · rw [e2] at e; exact h4 e
    · rw [e2] at e; cases e; omega
  refine ⟨set_heap hm1, owns_keep h.vals (hk _ l2 H0.ne_bv (fun e => (a1 _ e).2.1 rfl)), owns_keep h.flts (hk _ l3 H0.ne_bf (fun e => (a1 _ e).2.2.1 rfl)), hr.keep (fun q hq => set_other (hun q hq)), h.began.keep (fun q hq => hk q (l4 q hq) (a2 q hq).1 (a2 q hq).2.2.2), hu, h.bo, fun b hb h1 h2 h3 h4 h5 => ?_, ?_⟩
  · exact (hk b (Nat.lt_of_lt_of_le hb h.only.size) h1 (hus b hb h4)).trans (h.keep b hb h1 h2 h3 h4 h5)
  · refine (h.only.later (Only.grown (F := own uv) hg (fun q hq => mem_own.2 hq)) (fun q hq => ?_)).trans (set_only foot_m)
    have hq2 := mem_own.1 hq
    rcases h.uo with e2 | ⟨g, e2, hgg⟩
    · rw [e2] at hq2; exact .inl (foot_us hq2)
    · rw [e2] at hq2; cases hq2; exact .inr hgg
theorem GS.setU0 (H0 : MemoAt P T w0 st S B) (h : GS P T st S B w0 uv ul bv bl D E n m w) (hr : OffRow T.str w uv' ul') (ho : uv'.ownBlock = uv.ownBlock) : GS P T st S B w0 uv' ul' bv bl D E n m (w.setCell ⟨B.m, 4, none⟩ uv') :=
  h.setU H0 hr (.inl ho) ⟨rfl, rfl, rfl, Nat.le_refl _, fun _ _ _ => rfl⟩
/-- One key more is kept. -/
theorem GS.appU {g off c : Nat} {o : Obj} (H0 : MemoAt P T w0 st S B) (h : GS P T st S B w0 uv ul bv bl D E n m w) (hr : OffRow T.str w1 (.slice (some ⟨g, off, none⟩) n' c) ul') (hb : uv.ownBlock = some g ∨ g = (w.alloc o).heap.size) (hg : (w.alloc o).grownBy w1 uv.ownBlock) :
    GS P T st S B w0 (.slice (some ⟨g, off, none⟩) n' c) ul' bv bl D E n m (w1.setCell ⟨B.m, 4, none⟩ (.slice (some ⟨g, off, none⟩) n' c)) := by
  refine h.setU H0 hr ?_ ⟨hg.os, hg.tape, hg.output, ?_, fun b hb hne => ?_⟩
  · rcases hb with e | e
    · exact .inl (by rw [e]; rfl)
    · exact .inr ⟨g, rfl, by rw [e, World.size_alloc]; omega⟩
  · have := hg.size; rw [World.size_alloc] at this; omega
  · rw [hg.block b (by rw [World.size_alloc]; omega) hne, Go.heap_alloc_old _ _ hb]
/-- The draw of an order turns nothing. -/
theorem GS.same (h : GS P T st S B w0 uv ul bv bl D E n m w) (e1 : w1.heap = w.heap) (e2 : w1.os = w.os) (e3 : w1.tape = w.tape) (e4 : w1.output = w.output) : GS P T st S B w0 uv ul bv bl D E n m w1 :=
  ⟨by rw [e1]; exact h.obj, owns_keep h.vals (by rw [e1]), owns_keep h.flts (by rw [e1]), h.used.keep (fun q _ => by rw [e1]), h.began.keep (fun q _ => by rw [e1]), h.uo, h.bo, fun b hb h1 h2 h3 h4 h5 => by rw [e1]; exact h.keep b hb h1 h2 h3 h4 h5, ⟨e2.trans h.only.os, e3.trans h.only.tape, e4.trans h.only.output, by rw [e1]; exact h.only.size, fun b hb hf => by rw [e1]; exact h.only.block b hb hf⟩⟩
/-- The flight is still what it was. -/
theorem GS.fl (H0 : MemoAt P T w0 st S B) (h : GS P T st S B w0 uv ul bv bl D E n m w) {k : ByteArray} {f : Fl} (hf : getK S.making k = some f) : FlAt T w f :=
  (H0.fls _ (getK_mem hf)).keep fun b hb => by
    obtain ⟨a1, a2, a3, a4, a5⟩ := H0.fl_out hf b hb
    exact h.keep b (H0.lt b (fl_foot hf hb)) a1 a2 a3 a4 a5
/-- The flight's blocks are the memo's no more. -/
theorem GS.gone (H0 : MemoAt P T w0 st S B) (h : GS P T st S B w0 uv ul bv bl D E n m w) {k : ByteArray} {f : Fl} (hf : getK S.making k = some f) (K' : List (ByteArray × τ)) :
    ∀ b ∈ flFoot f, b ∉ foot { S with making := dropK S.making k, kept := K' } { B with us := uv, bs := bv } := by
  intro b hb hm
  obtain ⟨a1, a2, a3, a4, a5⟩ := H0.fl_out hf b hb
  have hlt := H0.lt b (fl_foot hf hb)
  unfold foot at hm
  simp only [List.mem_cons, List.mem_append] at hm
  rcases hm with h1 | h1 | h1 | h1 | h1 | h1
  · exact a1 h1
  · exact a2 h1
  · exact a3 h1
  · have h2 := mem_own.1 h1
    rcases h.uo with e | ⟨g, e, hg⟩
    · rw [e] at h2; exact a4 h2
    · rw [e] at h2; cases h2; omega
  · have h2 := mem_own.1 h1
    rw [h.bo] at h2
    exact a5 h2
  · obtain ⟨M1, M2, e, k1, k2⟩ := split_at hf H0.umaking
    have hn := H0.nodup
    unfold foot at hn
    simp only [List.nodup_cons] at hn
    have n1 := hn.2.2.2
    rw [List.nodup_append] at n1
    have n2 := n1.2.1
    rw [List.nodup_append] at n2
    have n3 := n2.2.1
    rw [e, List.flatMap_append, List.flatMap_cons, List.nodup_append] at n3
    obtain ⟨m1, m2, m3⟩ := n3
    rw [List.nodup_append] at m2
    rw [e, dropK_split k1 k2, List.flatMap_append] at h1
    rcases List.mem_append.1 h1 with h2 | h2
    · exact m3 b h2 b (List.mem_append_left _ hb) rfl
    · exact m2.2.2 b hb b h2 rfl
/-- The end of the call: the value laid into the flight, its channel closed. -/
theorem GS.done (H0 : MemoAt P T w0 st S B) (h : GS P T st S B w0 uv ul bv bl D E n m w) {k : ByteArray} {f : Fl} (hf : getK S.making k = some f) {K' : List (ByteArray × τ)} {x : Value} {o : Obj}
    (hul : ul = K'.map (fun p => Value.string p.1)) (hbl : bl = (dropK S.making k).map (fun p => Value.string p.1)) (hD : Tie T.rdv D K') (hE : Tie (fun f : Fl => rdp f.blk) E (dropK S.making k))
    (hKn : (keys K').Nodup) (hKk : ∀ k' ∈ keys K', k' ∈ keys S.kept ∨ k' = k) (w1 : World) (hw1 : w1.heap = ((w.setCell ⟨f.blk, 3, none⟩ x).heap).setIfInBounds f.ch o) (e2 : w1.os = w.os) (e3 : w1.tape = w.tape) (e4 : w1.output = w.output) :
    MemoAt P T w1 st { S with making := dropK S.making k, kept := K' } { B with us := uv, bs := bv } ∧
      (∀ b ∈ foot { S with making := dropK S.making k, kept := K' } { B with us := uv, bs := bv }, b ∈ foot S B ∨ w0.heap.size ≤ b) ∧
      Only (foot S B) w0 w1 ∧ OffRow T.int w1 f.ws (f.wait.map (Value.int .i64)) ∧ ∀ b ∈ flFoot f, b ∉ foot { S with making := dropK S.making k, kept := K' } { B with us := uv, bs := bv } := by
  obtain ⟨a1, a2⟩ := h.apart H0
  obtain ⟨l1, l2, l3, l4⟩ := h.lt
  have hfo := H0.fl_out hf
  have hws := H0.fl_ws hf
  have hfl := h.fl H0 hf
  have hb0 := hfo f.blk (by simp [flFoot])
  have hc0 := hfo f.ch (by simp [flFoot])
  have hbl0 := H0.lt f.blk (fl_foot hf (by simp [flFoot]))
  have hcl0 := H0.lt f.ch (fl_foot hf (by simp [flFoot]))
  have hk : ∀ b, b ≠ f.blk → b ≠ f.ch → w1.heap[b]? = w.heap[b]? := fun b h1 h2 => by
    rw [hw1, Array.getElem?_setIfInBounds_ne (fun e => h2 e.symm)]
    exact set_other h1
  have hun : ∀ q, uv.ownBlock = some q → q ≠ f.blk ∧ q ≠ f.ch := fun q hq => by
    rcases h.uo with e | ⟨g, e, hg⟩
    · rw [e] at hq
      exact ⟨fun e2 => hb0.2.2.2.1 (e2 ▸ hq), fun e2 => hc0.2.2.2.1 (e2 ▸ hq)⟩
    · rw [e] at hq; cases hq
      exact ⟨by omega, by omega⟩
  have hbn : ∀ q, bv.ownBlock = some q → q ≠ f.blk ∧ q ≠ f.ch := fun q hq => by
    rw [h.bo] at hq
    exact ⟨fun e2 => hb0.2.2.2.2 (e2 ▸ hq), fun e2 => hc0.2.2.2.2 (e2 ▸ hq)⟩
  have hs : w1.heap.size = w.heap.size := by rw [hw1, Array.size_setIfInBounds, set_size]
  have honly : Only (foot S B) w0 w1 := by
    refine h.only.trans ⟨e2, e3, e4, Nat.le_of_eq hs.symm, fun b hb hff => hk b (fun e => hff (e ▸ fl_foot hf (by simp [flFoot]))) (fun e => hff (e ▸ fl_foot hf (by simp [flFoot])))⟩
  have hsz := hD.size
  have hsz2 := hE.size
  obtain ⟨g1, g2⟩ := H0.give (w' := w1) hf (us' := uv) (bs' := bv) hKn hKk h.uo h.bo ((hk _ (fun e => hb0.1 e.symm) (fun e => hc0.1 e.symm)).trans h.obj)
    (by rw [← hul]; exact h.used.keep (fun q hq => hk q (hun q hq).1 (hun q hq).2)) (by rw [← hbl]; exact h.began.keep (fun q hq => hk q (hbn q hq).1 (hbn q hq).2))
    ⟨D, by rw [← hsz]; exact owns_keep (owns_tight h.vals) (hk _ (fun e => hb0.2.1 e.symm) (fun e => hc0.2.1 e.symm)), hD⟩
    ⟨E, by rw [← hsz2]; exact owns_keep (owns_tight h.flts) (hk _ (fun e => hb0.2.2.1 e.symm) (fun e => hc0.2.2.1 e.symm)), hE⟩
    (fun b hb h1 h2 h3 h4 h5 h6 => (hk b (fun e => h6 (by simp [flFoot, e])) (fun e => h6 (by simp [flFoot, e]))).trans (h.keep b (H0.lt b hb) h1 h2 h3 h4 h5))
  exact ⟨g1, g2, honly, hfl.row.keep (fun q hq => hk q (fun e => hws.1 (e ▸ hq)) (fun e => hws.2.1 (e ▸ hq))), h.gone H0 hf K'⟩
end
section
variable {P : Program} {w : World}
/-- close of an open channel. -/
theorem run_close_some (ats : Array TypeId) (ty : TypeId) (r : Nat) {room s rc : Nat} {buf : Array Value} {tm : Bool} (h : w.heap[r]? = some (.chan room buf false s rc tm)) :
    ∃ w' : World, (Builtin.close_ ats ty #[.chan (some r)]).run P w = .ok (.tuple #[]) w' ∧ w'.heap = w.heap.setIfInBounds r (.chan room buf true s rc tm) ∧ w'.os = w.os ∧ w'.tape = w.tape ∧ w'.output = w.output :=
  ⟨_, run_close_open (P := P) ats ty h, rfl, rfl, rfl, rfl⟩
end
/-- A key of a map in memory is no longer than a text may be. -/
theorem key_size {P : Program} {kt : TypeId} {R : Value → Option (DataW Unit × List MemPlace)} {w : World} {b n : Nat} {D : DataW Unit} (hk : P.underlying kt = some .string) (h : w.ownsMap P kt R b n D) {s : ByteArray} (hh : Maps.has D (litS s) = true) : s.size ≤ maxLen := by
  obtain ⟨es, clock, _, F, _, rfl⟩ := h
  rw [Maps.has_eq, List.any_eq_true] at hh
  obtain ⟨p, hp, hs⟩ := hh
  have e := WideAt.sameKey_eq hs
  have hp2 := ((WideShapes.sorted_perm _).mem_iff).1 hp
  obtain ⟨x, hx, rfl⟩ := List.mem_map.1 hp2
  obtain ⟨y, hy⟩ := F.reads x hx
  have hkey := WideElems.rd_key hy
  rw [WideElems.rg_of hy] at e
  rw [e, keyOf_string hk] at hkey
  unfold mapKey at hkey
  rw [hk] at hkey
  split at hkey
  · cases hkey
  · simp [litS] at hkey
  · rename_i t _ _
    by_cases hm : t.size ≤ maxLen
    · rw [if_pos hm] at hkey
      have := litS_inj (s := t) (t := s) (by simpa [litS] using hkey)
      rw [← this]; exact hm
    · rw [if_neg hm] at hkey; cases hkey
  · cases hkey
section
variable {τ : Type} {T : MT τ} {w w9 : World} {f : Fl} {x : Value} {o : Obj}
theorem close_cell (hfl : FlAt T w f) (hne : f.ch ≠ f.blk) (hw9 : w9.heap = ((w.setCell ⟨f.blk, 3, none⟩ x).heap).setIfInBounds f.ch o) : w9.cell? ⟨f.blk, 1, none⟩ = some f.ws := by
  have h9 : w9.heap[f.blk]? = some (.cells (#[.int .i64 f.who, f.ws, .chan (some f.ch), T.zero].setIfInBounds 3 x) T.fl (0, 0)) := by
    rw [hw9, Array.getElem?_setIfInBounds_ne hne]; exact set_heap hfl.obj
  rw [cell_of_row _ _ _ _ _ _ h9]; rfl
end
section
variable {τ : Type}
/-- The list of what is kept, its first thing and the others. -/
theorem head_of (l : List (ByteArray × τ)) (k : ByteArray) (x : τ) : ∃ p0 r, l ++ [(k, x)] = p0 :: r ∧ (l ++ [(k, x)]).tail = r ∧ r.length = l.length := by
  cases l with
  | nil => exact ⟨(k, x), [], rfl, rfl, rfl⟩
  | cons p l => exact ⟨p, l ++ [(k, x)], rfl, rfl, by simp⟩
theorem dropK_head {p0 : ByteArray × τ} {r : List (ByteArray × τ)} (h : (keys (p0 :: r)).Nodup) : dropK (p0 :: r) p0.1 = r := by
  have e : dropK (p0 :: r) p0.1 = dropK r p0.1 := by unfold dropK; rw [List.filter_cons_of_neg (by simp)]
  rw [e]
  exact dropK_none (by simp only [keys, List.map_cons, List.nodup_cons] at h; exact h.1)
end
end Go.Proofs.Ytjghbcligjiaaaa
