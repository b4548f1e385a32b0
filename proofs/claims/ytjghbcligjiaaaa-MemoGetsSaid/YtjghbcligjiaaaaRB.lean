/- Who makes a key. Out of: The document's memo held; Ask in one; Give. The document's Give. The document's Give: a value that was made. The document's Give: a value that was made; the walk. The document's Give in one; Keys, Waiting; who makes a key. -/
import Derived.Test.YtjghbcligjiaaaaRA
import Derived.Deep.QuietTactic
import Derived.BigQuiet
import Derived.StillTailTactics
import Derived.Test.YtjghbcligjiaaaaRead
namespace Go.Proofs.Ytjghbcligjiaaaa
section
open Go.RowKit Go.Maps Go.Sort
set_option linter.unusedVariables false
set_option linter.unusedSimpArgs false
/-- The document's memo at block r holds A; its blocks are F. -/
def RefHeld (w : World) (r : Nat) (A : AS Int) (F : List Nat) : Prop := ∃ S kv mv, RefAt w r S kv mv ∧ S.abs = A ∧ rfoot S r kv mv = F
section
variable {w w' : World} {r : Nat} {A : AS Int} {F G : List Nat}
theorem RefHeld.lt (h : RefHeld w r A F) : ∀ b ∈ F, b < w.heap.size := by
  obtain ⟨S, kv, mv, h, _, rfl⟩ := h
  exact h.lt
theorem RefHeld.keep (h : RefHeld w r A F) (hk : ∀ b ∈ F, w'.heap[b]? = w.heap[b]?) : RefHeld w' r A F := by
  obtain ⟨S, kv, mv, h, h1, rfl⟩ := h
  exact ⟨S, kv, mv, h.keep hk, h1, rfl⟩
theorem RefHeld.other (h : RefHeld w r A F) (ho : Only G w w') (hd : ∀ b ∈ F, b ∉ G) : RefHeld w' r A F := h.keep fun b hb => ho.block b (h.lt b hb) (hd b hb)
theorem RefAsk (k : ByteArray) (who : Int) (h : RefHeld w r A F) (hsm : SmA A 1000) :
    Calls Try.prog 22 #[.pointer (some ⟨r, 0, none⟩), .string k, .int .i64 who] w fun e w' => e = .returned (askOut Ti (askA A k who).2) ∧ ∃ F', RefHeld w' r (askA A k who).1 F' ∧ Grow F F' w ∧ Only F w w' := by
  obtain ⟨S, kv, mv, h, rfl, rfl⟩ := h
  have hb1 : S.kept.length ≤ 1000 := hsm.kept
  have hb2 : S.making.length ≤ 1000 := by have := hsm.making; simpa [RS.abs] using this
  have key : ∀ w' A', RefSteps w r S kv mv w' A' → ∃ F', RefHeld w' r A' F' ∧ Grow (rfoot S r kv mv) F' w ∧ Only (rfoot S r kv mv) w w' := by
    rintro w' A' ⟨S', kv', mv', h1, h2, h3, h4⟩
    exact ⟨_, ⟨S', kv', mv', h1, h2, rfl⟩, h3, h4⟩
  have hak : getK S.abs.kept k = getK S.kept k := rfl
  cases hk : getK S.kept k with
  | some x =>
    have e : askA S.abs k who = ({ S.abs with kept := dropK S.kept k ++ [(k, x)] }, .hit x) := by
      unfold askA; rw [hak, hk]; rfl
    rw [e]
    refine (refAsk_hit h hk hb1).mono ?_
    rintro e w' ⟨rfl, hs⟩
    exact ⟨rfl, key _ _ hs⟩
  | none =>
    cases hf : getK S.making k with
    | none =>
      have e : askA S.abs k who = ({ S.abs with making := S.abs.making ++ [(k, (who, []))] }, .make) := by
        unfold askA; rw [hak, hk, rabs_making, hf]; rfl
      rw [e]
      refine (refAsk_make h hk hf hb1 hb2).mono ?_
      rintro e w' ⟨rfl, hs⟩
      exact ⟨rfl, key _ _ hs⟩
    | some f =>
      by_cases hw : f.who = who
      · have e : askA S.abs k who = (S.abs, .own) := by
          unfold askA; rw [hak, hk, rabs_making, hf]; simp [rA, hw]
        rw [e]
        refine (refAsk_own h hk hf hw hb1 hb2).mono ?_
        rintro e w' ⟨rfl, q, rfl⟩
        exact ⟨rfl, key _ _ (RefSteps.same h rfl rfl rfl rfl rfl)⟩
      · have hb3 : f.wait.length ≤ 1000 := by
          have := hsm.wait (k, rA f) (by unfold RS.abs; exact List.mem_map.2 ⟨_, getK_mem hf, rfl⟩)
          exact this
        by_cases hm : who ∈ f.wait
        · have e : askA S.abs k who = (S.abs, .wait) := by
            unfold askA; rw [hak, hk, rabs_making, hf]; simp [rA, hw, hm]
          rw [e]
          refine (refAsk_waits h hk hf hw hm hb1 hb2 hb3).mono ?_
          rintro e w' ⟨rfl, q, rfl⟩
          exact ⟨rfl, key _ _ (RefSteps.same h rfl rfl rfl rfl rfl)⟩
        · have e : askA S.abs k who = ({ S.abs with making := setK S.abs.making k (f.who, f.wait ++ [who]) }, .wait) := by
            unfold askA; rw [hak, hk, rabs_making, hf]; simp [rA, hw, hm]
          rw [e]
          refine (refAsk_wait h hk hf hw hm hb1 hb2 hb3).mono ?_
          rintro e w' ⟨rfl, hs⟩
          exact ⟨rfl, key _ _ hs⟩
end
end

section
open Go.RowKit Go.Maps Go.Sort
set_option linter.unusedVariables false
set_option linter.unusedSimpArgs false
section
variable {w w' : World} {r : Nat} {S : RS} {kv mv : Value} {k : ByteArray} {who x : Int} {f : RFl}
set_option maxRecDepth 100000 in
set_option maxHeartbeats 800000 in
theorem refGive_none (h : RefAt w r S kv mv) (hf : ∀ f, getK S.making k = some f → ¬ f.who = who) (hb2 : S.making.length ≤ 1000) :
    Calls Try.prog 23 #[.pointer (some ⟨r, 0, none⟩), .string k, .int .i64 who, .int .i64 x] w fun e w' => e = .returned (.tuple #[.slice none 0 0, .int .i64 5]) ∧ ∃ q, w' = w.drewN q := by
  obtain ⟨r0, r1, r2, rz⟩ := rcells h.obj
  cases hg : getK S.making k with
  | none =>
    have F1 := Lib.hid (findM_none h.making hb2 h.umaking hg)
    clear h hf hg
    go_enter Try.func23, Try.ntmps23
    go_wp2_with (go_at_call 41; refine F1.out.mono ?_; rintro e w1 ⟨rfl, q1, rfl⟩)
    go_ret2
    exact ⟨rfl, _, rfl⟩
  | some f =>
    have hw := hf f hg
    obtain ⟨i, hi, _, hc⟩ := findM_some h.making hb2 h.umaking hg
    have hil : i < S.making.length := (List.getElem?_eq_some_iff.1 hi).1
    have hem : (S.making.map enM)[i]? = some (enM (k, f)) := by rw [List.getElem?_map, hi]; rfl
    obtain ⟨g, cap, hmv, _, _, _, hrow⟩ := h.making.form (l := S.making.map enM) (by intro e; simp at e; rw [e] at hil; simp at hil)
    obtain ⟨b, off, e, _, d0, d1, d2, d3⟩ := en_at hrow hem
    simp only [Option.some.injEq, Addr.mk.injEq, and_true] at e
    obtain ⟨rfl, rfl⟩ := e
    rw [List.length_map] at hmv
    subst hmv
    simp only [Nat.zero_add, enM] at d0 d1 d2 d3
    have hi0 : (0 : Int) ≤ (i : Int) := by omega
    have hi1 : (i : Int) < (S.making.length : Int) := by omega
    have hin : ¬ (i : Int) < 0 := by omega
    have hwb : (f.who != who) = true := by simp [hw]
    have F1 := Lib.hid hc
    clear h hf hg hc hi hem hrow
    go_enter Try.func23, Try.ntmps23
    go_wp2_with (go_at_call 41; refine F1.out.mono ?_; rintro e w1 ⟨rfl, q1, rfl⟩)
    go_ret2
    exact ⟨rfl, _, rfl⟩
/-- The row of what is being made without one key; then a key more that is kept. -/
theorem dropM (h : RefAt w r S kv mv) {w1 w2 : World} {mv' : Value} {i : Nat} (hi : S.making[i]? = some (k, f)) (hn : w1.heap = w.heap) (ho1 : w1.os = w.os) (ho2 : w1.tape = w.tape) (ho3 : w1.output = w.output)
    (hown : Own En.cells 4 92 w2 w1.heap.size mv' ((S.making.map enM).eraseIdx i)) (hb : Below w1.heap.size w1 w2) :
    RefAt (w2.setCell ⟨r, 2, none⟩ mv') r { S with making := dropK S.making k } kv mv' ∧ Grow (rfoot S r kv mv) (rfoot { S with making := dropK S.making k } r kv mv') w ∧ Only (rfoot S r kv mv) w (w2.setCell ⟨r, 2, none⟩ mv') ∧
      ∀ q, f.ws.ownBlock = some q → q ∉ rfoot { S with making := dropK S.making k } r kv mv' := by
  obtain ⟨hg, hdr⟩ := idx_of h.umaking hi
  have hrlt := h.lt r rfoot_r
  have hbk : ∀ b, b < w.heap.size → w2.heap[b]? = w.heap[b]? := fun b hb2 => by rw [hb.block b (by rw [hn]; exact hb2), hn]
  have hlt : ∀ q, mv'.ownBlock = some q → w.heap.size ≤ q := fun q hq => by have := (Own.lt hown q hq).1; rw [hn] at this; exact this
  have hu : NewOr w mv mv' := by
    cases hq : mv'.ownBlock with
    | none => exact .inr hq
    | some q => exact .inl (.inr ⟨q, hq, hlt q hq⟩)
  obtain ⟨M1, M2, e, k1, k2⟩ := split_at hg h.umaking
  have e2 : dropK S.making k = M1 ++ M2 := by rw [e]; exact dropK_split k1 k2
  have hrow : (S.making.map enM).eraseIdx i = (dropK S.making k).map enM := by
    rw [← hdr, erase_split, erase_split, List.map_append, List.map_take, List.map_drop]
  rw [hrow] at hown
  have hr2 : w2.heap[r]? = some (.cells #[.int .i64 (S.most : Int), kv, mv] 40 (0, 0)) := (hbk r hrlt).trans h.obj
  obtain ⟨a1, a2⟩ := h.setMaking (w' := w2.setCell ⟨r, 2, none⟩ mv') (M' := dropK S.making k) hu (nodup_dropK k h.umaking)
    (fun k' hk' hm => by rw [keys_dropK] at hm; exact h.apart k' hk' (List.mem_filter.1 hm).1)
    (by rw [e2, e]; unfold wsFoot; rw [List.flatMap_append, List.flatMap_append, List.flatMap_cons]; exact List.Sublist.append (List.Sublist.refl _) (List.sublist_append_right _ _))
    (fun p hp => .inl (List.mem_filter.1 hp).1)
    (set_heap hr2) (Own.keep2 (Own.lower hown (Nat.zero_le _)) (fun q hq => set_other (by have := hlt q hq; omega)))
    (fun b hb h1 _ => (set_other h1).trans (hbk b (h.lt b hb)))
  have hsz : w.heap.size ≤ w2.heap.size := by have := hb.size; rw [hn] at this; exact this
  have o1 : Only (rfoot S r kv mv) w w2 := ⟨hb.os.trans ho1, hb.tape.trans ho2, hb.output.trans ho3, hsz, fun b hb2 _ => hbk b hb2⟩
  refine ⟨a1, a2, o1.trans (set_only rfoot_r), fun q hq hm => ?_⟩
  have hpm := List.mem_of_getElem? hi
  have hs4 := h.sep.2.2.2 _ hpm q hq
  have hql := h.lt q (rfoot_ws hpm hq)
  unfold rfoot at hm
  simp only [List.mem_cons, List.mem_append] at hm
  rcases hm with h1 | h1 | h1 | h1
  · exact hs4.1 h1
  · exact hs4.2.1 (mem_own.1 h1)
  · have := hlt q (mem_own.1 h1); omega
  · have hnn := h.nodup
    unfold rfoot at hnn
    simp only [List.nodup_cons] at hnn
    have n1 := hnn.2
    rw [List.nodup_append] at n1
    have n2 := n1.2.1
    rw [List.nodup_append] at n2
    have n3 := n2.2.1
    rw [e] at n3
    unfold wsFoot at n3 h1
    rw [List.flatMap_append, List.flatMap_cons, List.nodup_append] at n3
    obtain ⟨m1, m2, m3⟩ := n3
    rw [List.nodup_append] at m2
    simp only [e2, List.flatMap_append] at h1
    rcases List.mem_append.1 h1 with h3 | h3
    · exact m3 q h3 q (List.mem_append_left _ (mem_own.2 hq)) rfl
    · exact m2.2.2 q (mem_own.2 hq) q h3 rfl
end
end

section
open Go.RowKit Go.Maps Go.Sort
set_option linter.unusedVariables false
set_option linter.unusedSimpArgs false
section
variable {w w' : World} {r : Nat} {S : RS} {kv mv : Value} {k : ByteArray} {who x : Int} {f : RFl}
/-- One more is kept. -/
theorem addK (h : RefAt w r S kv mv) (hk : k ∉ keys S.kept) (hm : k ∉ keys S.making) {g n cap : Nat}
    (ho : Own En.cells 4 92 w' 0 (.slice (some ⟨g, 0, none⟩) n cap) (S.kept.map enK ++ [⟨k, x, 0, none, 0, 0⟩])) (hg : w.grownBy w' kv.ownBlock) (hb : kv.ownBlock = some g ∨ g = w.heap.size + 1) :
    RefAt (w'.setCell ⟨r, 1, none⟩ (.slice (some ⟨g, 0, none⟩) n cap)) r { S with kept := S.kept ++ [(k, x)] } (.slice (some ⟨g, 0, none⟩) n cap) mv ∧
      Grow (rfoot S r kv mv) (rfoot { S with kept := S.kept ++ [(k, x)] } r (.slice (some ⟨g, 0, none⟩) n cap) mv) w ∧ Only (rfoot S r kv mv) w (w'.setCell ⟨r, 1, none⟩ (.slice (some ⟨g, 0, none⟩) n cap)) := by
  have hrlt := h.lt r rfoot_r
  have hkr := h.sep.1
  have hkeep : ∀ b, b < w.heap.size → kv.ownBlock ≠ some b → w'.heap[b]? = w.heap[b]? := fun b hb hne => hg.block b hb (fun e => hne e.symm)
  have hgr : g ≠ r := by
    rcases hb with e | e
    · intro e2; rw [e2] at e; exact hkr e
    · omega
  have hu : NewOwn w kv (.slice (some ⟨g, 0, none⟩) n cap) := by
    rcases hb with e | e
    · exact .inl (by rw [e]; rfl)
    · exact .inr ⟨g, rfl, by omega⟩
  have hr2 := (hkeep r hrlt hkr).trans h.obj
  obtain ⟨a1, a2⟩ := h.setKept (w' := w'.setCell ⟨r, 1, none⟩ (.slice (some ⟨g, 0, none⟩) n cap)) (K' := S.kept ++ [(k, x)]) (.inl hu) (by rw [keys_app]; exact nodup_app h.ukept hk)
    (fun k' hk' => by
      rw [keys_app] at hk'
      rcases List.mem_append.1 hk' with h' | h'
      · exact h.apart k' h'
      · simp at h'; subst h'; exact hm)
    (set_heap hr2)
    (by
      rw [List.map_append]
      exact Own.keep2 ho (fun q hq => set_other (by simp [Value.ownBlock] at hq; rw [← hq]; exact hgr)))
    (fun b hb h1 h2 => (set_other h1).trans (hkeep b (h.lt b hb) h2))
  have o1 : Only (rfoot S r kv mv) w w' := ⟨hg.os, hg.tape, hg.output, hg.size, fun b hb hf => hkeep b hb (fun e => hf (rfoot_kv e))⟩
  exact ⟨a1, a2, o1.trans (set_only rfoot_r)⟩
/-- The oldest that is kept goes. -/
theorem oneLess (h : RefAt w r S kv mv) {v : Value} (hown : Own En.cells 4 92 w' w.heap.size v ((S.kept.map enK).eraseIdx 0)) (hb : Below w.heap.size w w') :
    RefAt (w'.setCell ⟨r, 1, none⟩ v) r { S with kept := S.kept.tail } v mv ∧ Grow (rfoot S r kv mv) (rfoot { S with kept := S.kept.tail } r v mv) w ∧ Only (rfoot S r kv mv) w (w'.setCell ⟨r, 1, none⟩ v) := by
  have hrlt := h.lt r rfoot_r
  have hlt : ∀ q, v.ownBlock = some q → w.heap.size ≤ q := fun q hq => (Own.lt hown q hq).1
  have hu : NewOr w kv v := by
    cases hq : v.ownBlock with
    | none => exact .inr hq
    | some q => exact .inl (.inr ⟨q, hq, hlt q hq⟩)
  have hrow : (S.kept.map enK).eraseIdx 0 = S.kept.tail.map enK := by cases S.kept <;> rfl
  rw [hrow] at hown
  have hr2 : w'.heap[r]? = some (.cells #[.int .i64 (S.most : Int), kv, mv] 40 (0, 0)) := (hb.block r hrlt).trans h.obj
  have hsub : ∀ k', k' ∈ keys S.kept.tail → k' ∈ keys S.kept := fun k' hk' => by
    unfold keys at *
    rw [List.map_tail] at hk'
    exact List.mem_of_mem_tail hk'
  obtain ⟨a1, a2⟩ := h.setKept (w' := w'.setCell ⟨r, 1, none⟩ v) (K' := S.kept.tail) hu
    (by have := h.ukept; unfold keys at *; rw [List.map_tail]; exact this.sublist (List.tail_sublist _))
    (fun k' hk' => h.apart k' (hsub k' hk'))
    (set_heap hr2) (Own.keep2 (Own.lower hown (Nat.zero_le _)) (fun q hq => set_other (by have := hlt q hq; omega)))
    (fun b hb2 h1 _ => (set_other h1).trans (hb.block b (h.lt b hb2)))
  have o1 : Only (rfoot S r kv mv) w w' := ⟨hb.os, hb.tape, hb.output, hb.size, fun b hb2 _ => hb.block b hb2⟩
  exact ⟨a1, a2, o1.trans (set_only rfoot_r)⟩
/-- What but does with the row of what is being made. -/
def ButM (w : World) (r : Nat) (S : RS) (kv mv : Value) (k : ByteArray) (f : RFl) (n : Nat) (e : Ending) (w2 : World) : Prop :=
  ∃ A c, e = .returned (.slice A n c) ∧ w2.heap[r]? = some (.cells #[.int .i64 (S.most : Int), kv, mv] 40 (0, 0)) ∧
    RefAt (w2.setCell ⟨r, 2, none⟩ (.slice A n c)) r { S with making := dropK S.making k } kv (.slice A n c) ∧ Grow (rfoot S r kv mv) (rfoot { S with making := dropK S.making k } r kv (.slice A n c)) w ∧ Only (rfoot S r kv mv) w (w2.setCell ⟨r, 2, none⟩ (.slice A n c)) ∧
      (∀ q, f.ws.ownBlock = some q → q ∉ rfoot { S with making := dropK S.making k } r kv (.slice A n c)) ∧ OffRow 3 (w2.setCell ⟨r, 2, none⟩ (.slice A n c)) f.ws (f.wait.map (Value.int .i64))
theorem butM (h : RefAt w r S kv mv) {i g cap : Nat} (hi : S.making[i]? = some (k, f)) (hb2 : S.making.length ≤ 1000) (hmv : mv = .slice (some ⟨g, 0, none⟩) S.making.length cap) (q : Nat) :
    Calls Try.prog 43 #[.slice (some ⟨g, 0, none⟩) S.making.length cap, .int .i64 (i : Int)] (w.drewN q) (ButM w r S kv mv k f (S.making.length - 1)) := by
  have hil : i < S.making.length := (List.getElem?_eq_some_iff.1 hi).1
  obtain ⟨g', cap', hmv', hcap, hcapm, hglt, hrow⟩ := h.making.form (l := S.making.map enM) (by intro e; simp at e; rw [e] at hil; simp at hil)
  rw [hmv] at hmv'
  simp only [Value.slice.injEq, Option.some.injEq, Addr.mk.injEq, and_true] at hmv'
  obtain ⟨rfl, _, rfl⟩ := hmv'
  rw [List.length_map] at hcap
  have hb := but_any g 0 cap (S.making.map enM) i (w.drewN q) (by rw [List.length_map]; exact hb2) (by rw [List.length_map]; exact hil) (by rw [List.length_map]; exact hcap) hcapm (hrow.keep (fun p hp => rfl))
  rw [List.length_map] at hb
  refine hb.mono ?_
  rintro e w2 ⟨v, rfl, ho, hbb⟩
  obtain ⟨A, c, hv⟩ := Own.shape ho
  have hle : ((S.making.map enM).eraseIdx i).length = S.making.length - 1 := by
    rw [List.length_eraseIdx]; simp only [List.length_map]; rw [if_pos hil]
  rw [hle] at hv
  subst hv
  have hold : ∀ b, b < w.heap.size → w2.heap[b]? = w.heap[b]? := fun b hb2 => hbb.block b hb2
  obtain ⟨a1, a2, a3, a4⟩ := dropM h hi (w1 := w.drewN q) rfl rfl rfl rfl ho hbb
  refine ⟨A, c, rfl, (hold r (h.lt r rfoot_r)).trans h.obj, a1, a2, a3, a4, ?_⟩
  have hpm := List.mem_of_getElem? hi
  exact (h.ws _ hpm).keep fun p hp => (set_other (h.sep.2.2.2 _ hpm p hp).1).trans (hold p (h.lt p (rfoot_ws hpm hp)))
end
end

section
open Go.RowKit Go.Maps Go.Sort
set_option linter.unusedVariables false
set_option linter.unusedSimpArgs false
/-- Give's answer. -/
def RefGave (w : World) (r : Nat) (F : List Nat) (A : AS Int) (l : List Int) (e : Ending) (w' : World) : Prop :=
  ∃ v F', e = .returned (.tuple #[v, .int .i64 0]) ∧ OffRow (3 : TypeId) w' v (l.map (Value.int .i64)) ∧ (∀ q, v.ownBlock = some q → q ∈ F ∧ q ∉ F') ∧ RefHeld w' r A F' ∧ Grow F F' w ∧ Only F w w'
section
variable {w w' : World} {r : Nat} {S : RS} {kv mv : Value} {k : ByteArray} {who x : Int} {f : RFl}
theorem Grow.trans {F F' F'' : List Nat} (h1 : Grow F F' w) (h2 : Grow F' F'' w') (hs : w.heap.size ≤ w'.heap.size) : Grow F F'' w := fun b hb => by
  rcases h2 b hb with h | h
  · exact h1 b h
  · exact .inr (by omega)
theorem Only.grow {F F' : List Nat} {w1 w2 : World} (h1 : Only F w w1) (hg : Grow F F' w) (h2 : Only F' w1 w2) : Only F w w2 :=
  ⟨h2.os.trans h1.os, h2.tape.trans h1.tape, h2.output.trans h1.output, Nat.le_trans h1.size h2.size, fun b hb hf => (h2.block b (by have := h1.size; omega) (fun hm => by
    rcases hg b hm with h | h
    · exact hf h
    · omega)).trans (h1.block b hb hf)⟩
/-- The ends of Give. -/
theorem ref_gave {W2 W3 W4 : World} {S2 S3 : RS} {kv3 mv2 : Value} (h : RefAt w r S kv mv) (hf : getK S.making k = some f)
    (hP : RefAt W2 r S2 kv mv2 ∧ Grow (rfoot S r kv mv) (rfoot S2 r kv mv2) w ∧ Only (rfoot S r kv mv) w W2 ∧ (∀ q, f.ws.ownBlock = some q → q ∉ rfoot S2 r kv mv2) ∧ OffRow 3 W2 f.ws (f.wait.map (Value.int .i64)))
    (hA : RefAt W3 r S3 kv3 mv2 ∧ Grow (rfoot S2 r kv mv2) (rfoot S3 r kv3 mv2) W2 ∧ Only (rfoot S2 r kv mv2) W2 W3) (he : W4.heap = W3.heap) (h1 : W4.os = W3.os) (h2 : W4.tape = W3.tape) (h3 : W4.output = W3.output) :
    RefGave w r (rfoot S r kv mv) S3.abs f.wait (.returned (.tuple #[.slice f.wa f.wn f.wc, .int .i64 0])) W4 := by
  obtain ⟨p1, p2, p3, p4, p5⟩ := hP
  obtain ⟨a1, a2, a3⟩ := hA
  have o4 : Only (rfoot S2 r kv mv2) W2 W4 := ⟨h1.trans a3.os, h2.trans a3.tape, h3.trans a3.output, by rw [he]; exact a3.size, fun b hb hf => by rw [he]; exact a3.block b hb hf⟩
  refine ⟨f.ws, _, rfl, p5.other o4 p4, fun q hq => ⟨rfoot_ws (getK_mem hf) hq, a2.off (p4 q hq) (p5.lt q hq)⟩, ⟨S3, kv3, mv2, a1.keep (fun b _ => by rw [he]), rfl, rfl⟩, Grow.trans p2 a2 p3.size, Only.grow p3 p2 o4⟩
theorem butK (h : RefAt w r S kv mv) (hb1 : S.kept.length ≤ 1000) {g n cap : Nat} (hkv : kv = .slice (some ⟨g, 0, none⟩) n cap) (h0 : 0 < S.kept.length) (q : Nat) :
    Calls Try.prog 43 #[.slice (some ⟨g, 0, none⟩) S.kept.length cap, .int .i64 0] (w.drewN q) fun e w2 => ∃ A c, e = .returned (.slice A (S.kept.length - 1) c) ∧ w2.heap[r]? = some (.cells #[.int .i64 (S.most : Int), kv, mv] 40 (0, 0)) ∧
      RefAt (w2.setCell ⟨r, 1, none⟩ (.slice A (S.kept.length - 1) c)) r { S with kept := S.kept.tail } (.slice A (S.kept.length - 1) c) mv ∧ Grow (rfoot S r kv mv) (rfoot { S with kept := S.kept.tail } r (.slice A (S.kept.length - 1) c) mv) w ∧ Only (rfoot S r kv mv) w (w2.setCell ⟨r, 1, none⟩ (.slice A (S.kept.length - 1) c)) := by
  obtain ⟨g', cap', hkv', hcap, hcapm, hglt, hrow⟩ := h.kept.form (l := S.kept.map enK) (by intro e; simp at e; rw [e] at h0; simp at h0)
  rw [hkv] at hkv'
  simp only [Value.slice.injEq, Option.some.injEq, Addr.mk.injEq, and_true] at hkv'
  obtain ⟨rfl, _, rfl⟩ := hkv'
  rw [List.length_map] at hcap
  have hb := but_any g 0 cap (S.kept.map enK) 0 (w.drewN q) (by rw [List.length_map]; exact hb1) (by rw [List.length_map]; exact h0) (by rw [List.length_map]; exact hcap) hcapm (hrow.keep (fun p hp => rfl))
  rw [List.length_map] at hb
  refine hb.mono ?_
  rintro e w2 ⟨v, rfl, ho, hbb⟩
  obtain ⟨A, c, hv⟩ := Own.shape ho
  have hle : ((S.kept.map enK).eraseIdx 0).length = S.kept.length - 1 := by
    rw [List.length_eraseIdx]; simp only [List.length_map]; rw [if_pos h0]
  rw [hle] at hv
  subst hv
  have hd : RefAt (w.drewN q) r S kv mv := h.keep (fun b _ => rfl)
  obtain ⟨a1, a2, a3⟩ := oneLess hd ho hbb
  exact ⟨A, c, rfl, (hbb.block r (h.lt r rfoot_r)).trans h.obj, a1, a2, ⟨a3.os, a3.tape, a3.output, a3.size, a3.block⟩⟩
set_option maxRecDepth 100000 in
set_option maxHeartbeats 1600000 in
theorem refGive_fit (h : RefAt w r S kv mv) (hf : getK S.making k = some f) (hb1 : S.kept.length ≤ 900) (hb2 : S.making.length ≤ 1000) (hfit : S.kept.length + 1 ≤ S.most) :
    Calls Try.prog 23 #[.pointer (some ⟨r, 0, none⟩), .string k, .int .i64 f.who, .int .i64 x] w (RefGave w r (rfoot S r kv mv) (({ S with making := dropK S.making k, kept := S.kept ++ [(k, x)] } : RS).abs) f.wait) := by
  obtain ⟨i92, hi92, hz0, hz1, hz2⟩ := info_parts Try.info92
  obtain ⟨r0, r1, r2, rz⟩ := rcells h.obj
  obtain ⟨i, hi, _, hc⟩ := findM_some h.making hb2 h.umaking hf
  have hil : i < S.making.length := (List.getElem?_eq_some_iff.1 hi).1
  have hem : (S.making.map enM)[i]? = some (enM (k, f)) := by rw [List.getElem?_map, hi]; rfl
  obtain ⟨g, cap, hmv, _, _, _, hrow⟩ := h.making.form (l := S.making.map enM) (by intro e; simp at e; rw [e] at hil; simp at hil)
  obtain ⟨b, off, e, _, d0, d1, d2, d3⟩ := en_at hrow hem
  simp only [Option.some.injEq, Addr.mk.injEq, and_true] at e
  obtain ⟨rfl, rfl⟩ := e
  rw [List.length_map] at hmv
  have HB := Lib.hid (butM h hi hb2 hmv)
  have hkm : k ∈ keys S.making := List.mem_map.2 ⟨_, getK_mem hf, rfl⟩
  have hkk : k ∉ keys S.kept := fun hm => h.apart k hm hkm
  subst hmv
  simp only [Nat.zero_add, enM] at d0 d1 d2 d3
  have hi0 : (0 : Int) ≤ (i : Int) := by omega
  have hi1 : (i : Int) < (S.making.length : Int) := by omega
  have hin : ¬ (i : Int) < 0 := by omega
  have hwb : (f.who != f.who) = false := by simp
  have hlen : (S.kept.map enK).length + 1 ≤ 901 := by rw [List.length_map]; omega
  have hgt : decide ((S.most : Int) < (S.kept.length : Int) + 1) = false := by simp; omega
  have hgt2 : decide ((S.most : Int) < ((S.kept.length + 1 : Nat) : Int)) = false := by simp; omega
  have hgt3 : decide (S.most < S.kept.length + 1) = false := by simp; omega
  have F1 := Lib.hid hc
  have H := Lib.hid h
  have HF := Lib.hid hf
  have HKK := Lib.hid hkk
  have HLEN := Lib.hid hlen
  have HM := Lib.hid hkm
  clear h hf hc hi hem hrow hil hkm hkk hlen hb1 hb2
  go_enter Try.func23, Try.ntmps23
  go_wp2_with (first
    | (at_builtin; go_must (refine wpList_append_rec (cs := En.cells) rfl _ _ 38 rfl 92 i92 _ 56 Try.underlying38 hi92 hz0 hz1 hz2 rfl (by decide) En.len En.one (w2.setCell ⟨r, 2, none⟩ (.slice A2 (S.making.length - 1) c2)) 0 w2.heap.size kv (S.kept.map enK) ⟨k, x, 0, none, 0, 0⟩ _ rfl (by rfl) (by rfl) (by rw [set_size]) P1.out.1.kept (by have := HLEN.out; unfold maxLen; omega) (by have := HLEN.out; omega) (Nat.zero_le _) ?_; intro g4 cap4 w4 ho4 hg4 hb4 hl4; have hA := addK P1.out.1 (x := x) HKK.out (not_mem_dropK _ _) ho4 hg4 hb4; simp only [List.length_map] at hA; have hr4 := (hg4.block r (P1.out.1.lt r rfoot_r) (fun e => P1.out.1.sep.1 e.symm)).trans P1.out.1.obj; have k1 := (rcells hr4).2.1; have kz := (rcells hr4).2.2.2; obtain ⟨n0, n1, n2, nz⟩ := rcells hA.1.obj; have zl4 := hA.1.lt r rfoot_r; have HA := Lib.hid hA; clear hA hr4 ho4 hg4 hb4 hl4))
    | (go_at_call 41; refine F1.out.mono ?_; rintro e w1 ⟨rfl, q1, rfl⟩)
    | (go_at_call 43; refine (HB.out q1).mono ?_; rintro e w2 ⟨A2, c2, rfl, hr2, hP⟩; have s2 := (rcells hr2).2.2.1; have sz := (rcells hr2).2.2.2; obtain ⟨m0, m1, m2, mz⟩ := rcells hP.1.obj; have zl := hP.1.lt r rfoot_r; have zl2 : r < w2.heap.size := (Array.getElem?_eq_some_iff.1 hr2).1; have P1 := Lib.hid hP; clear hr2 hP))
  go_quiet (fail)
  go_wp2_with fail
  go_ret2
  exact ref_gave H.out HF.out P1.out HA.out rfl rfl rfl rfl
set_option maxRecDepth 100000 in
set_option maxHeartbeats 1600000 in
theorem refGive_full (h : RefAt w r S kv mv) (hf : getK S.making k = some f) (hb1 : S.kept.length ≤ 900) (hb2 : S.making.length ≤ 1000) (hfull : S.most < S.kept.length + 1) :
    Calls Try.prog 23 #[.pointer (some ⟨r, 0, none⟩), .string k, .int .i64 f.who, .int .i64 x] w (RefGave w r (rfoot S r kv mv) (({ S with making := dropK S.making k, kept := (S.kept ++ [(k, x)]).tail } : RS).abs) f.wait) := by
  obtain ⟨i92, hi92, hz0, hz1, hz2⟩ := info_parts Try.info92
  obtain ⟨r0, r1, r2, rz⟩ := rcells h.obj
  obtain ⟨i, hi, _, hc⟩ := findM_some h.making hb2 h.umaking hf
  have hil : i < S.making.length := (List.getElem?_eq_some_iff.1 hi).1
  have hem : (S.making.map enM)[i]? = some (enM (k, f)) := by rw [List.getElem?_map, hi]; rfl
  obtain ⟨g, cap, hmv, _, _, _, hrow⟩ := h.making.form (l := S.making.map enM) (by intro e; simp at e; rw [e] at hil; simp at hil)
  obtain ⟨b, off, e, _, d0, d1, d2, d3⟩ := en_at hrow hem
  simp only [Option.some.injEq, Addr.mk.injEq, and_true] at e
  obtain ⟨rfl, rfl⟩ := e
  rw [List.length_map] at hmv
  have HB := Lib.hid (butM h hi hb2 hmv)
  have hkm : k ∈ keys S.making := List.mem_map.2 ⟨_, getK_mem hf, rfl⟩
  have hkk : k ∉ keys S.kept := fun hm => h.apart k hm hkm
  subst hmv
  simp only [Nat.zero_add, enM] at d0 d1 d2 d3
  have hi0 : (0 : Int) ≤ (i : Int) := by omega
  have hi1 : (i : Int) < (S.making.length : Int) := by omega
  have hin : ¬ (i : Int) < 0 := by omega
  have hwb : (f.who != f.who) = false := by simp
  have hlen : (S.kept.map enK).length + 1 ≤ 901 := by rw [List.length_map]; omega
  have hgt : decide ((S.most : Int) < (S.kept.length : Int) + 1) = true := by simp; omega
  have hgt2 : decide ((S.most : Int) < ((S.kept.length + 1 : Nat) : Int)) = true := by simp; omega
  have hgt3 : decide (S.most < S.kept.length + 1) = true := by simp; omega
  have F1 := Lib.hid hc
  have H := Lib.hid h
  have HF := Lib.hid hf
  have HKK := Lib.hid hkk
  have HLEN := Lib.hid hlen
  have HM := Lib.hid hkm
  clear h hf hc hi hem hrow hil hkm hkk hlen hb1 hb2
  go_enter Try.func23, Try.ntmps23
  go_wp2_with (first
    | (at_builtin; go_must (refine wpList_append_rec (cs := En.cells) rfl _ _ 38 rfl 92 i92 _ 56 Try.underlying38 hi92 hz0 hz1 hz2 rfl (by decide) En.len En.one (w2.setCell ⟨r, 2, none⟩ (.slice A2 (S.making.length - 1) c2)) 0 w2.heap.size kv (S.kept.map enK) ⟨k, x, 0, none, 0, 0⟩ _ rfl (by rfl) (by rfl) (by rw [set_size]) P1.out.1.kept (by have := HLEN.out; unfold maxLen; omega) (by have := HLEN.out; omega) (Nat.zero_le _) ?_; intro g4 cap4 w4 ho4 hg4 hb4 hl4; have hA := addK P1.out.1 (x := x) HKK.out (not_mem_dropK _ _) ho4 hg4 hb4; simp only [List.length_map] at hA; have hr4 := (hg4.block r (P1.out.1.lt r rfoot_r) (fun e => P1.out.1.sep.1 e.symm)).trans P1.out.1.obj; have k1 := (rcells hr4).2.1; have kz := (rcells hr4).2.2.2; obtain ⟨n0, n1, n2, nz⟩ := rcells hA.1.obj; have zl4 := hA.1.lt r rfoot_r; have HA := Lib.hid hA; clear hA hr4 ho4 hg4 hb4 hl4))
    | (go_at_call 41; refine F1.out.mono ?_; rintro e w1 ⟨rfl, q1, rfl⟩)
    | (go_at_call 43; refine (HB.out q1).mono ?_; rintro e w2 ⟨A2, c2, rfl, hr2, hP⟩; have s2 := (rcells hr2).2.2.1; have sz := (rcells hr2).2.2.2; obtain ⟨m0, m1, m2, mz⟩ := rcells hP.1.obj; have zl := hP.1.lt r rfoot_r; have zl2 : r < w2.heap.size := (Array.getElem?_eq_some_iff.1 hr2).1; have P1 := Lib.hid hP; clear hr2 hP))
  go_quiet (fail)
  have hb3 := fun q => butK HA.out.1 (by simp; have := HLEN.out; simp at this; omega) rfl (by simp) q
  simp only [List.length_append, List.length_cons, List.length_nil, Nat.zero_add, Nat.add_sub_cancel] at hb3
  have HB3 := Lib.hid hb3
  clear hb3
  go_wp2_with (go_at_call 43; refine (HB3.out _).mono ?_; rintro e w5 ⟨A5, c5, rfl, hr5, hP5⟩; have t1 := (rcells hr5).2.1; have tz := (rcells hr5).2.2.2; have zl5 : r < w5.heap.size := (Array.getElem?_eq_some_iff.1 hr5).1; have P5 := Lib.hid hP5; clear hr5 hP5)
  go_ret2
  have hA := HA.out
  have hP := P5.out
  exact ref_gave H.out HF.out P1.out ⟨hP.1, Grow.trans hA.2.1 hP.2.1 hA.2.2.size, Only.grow hA.2.2 hA.2.1 hP.2.2⟩ rfl rfl rfl rfl
end
end

section
open Go.RowKit Go.Maps Go.Sort
set_option linter.unusedVariables false
set_option linter.unusedSimpArgs false
theorem Try.info9k : (Try.prog.info? 9).map (fun i => (i.zero, i.size, i.bytes)) = some (some (.string ⟨#[]⟩), 1, 16) := by kernel_rfl
theorem strCells_len (s : ByteArray) : (strCells s).length = 1 := rfl
theorem strCells_one (s : ByteArray) : ∀ u ∈ strCells s, u.oneCell' = true := by simp [strCells, Value.oneCell']
theorem flat_str (l : List ByteArray) : l.flatMap strCells = l.map Value.string := by
  induction l with
  | nil => rfl
  | cons x l ih => rw [List.flatMap_cons, ih]; rfl
/-- A list of keys of its own. -/
def KeysR (w : World) (l : List ByteArray) (e : Ending) (w' : World) : Prop := ∃ v, e = .returned v ∧ OffRow 9 w' v (l.map Value.string) ∧ (∀ q, v.ownBlock = some q → w.heap.size ≤ q) ∧ Below w.heap.size w w'
theorem keys_any (A : Option Addr) (c : Nat) (l : List En) (w : World) (hl : l.length ≤ 1000) (hr : RowOf En.cells 4 w w.heap.size A l) :
    Calls Try.prog 16 #[.slice A l.length c] w (KeysR w (l.map En.key)) := by
  obtain ⟨i9, hi9, hz0, hz1, hz2⟩ := info_parts Try.info9k
  have HR := Lib.hid hr
  have HLL := Lib.hid hl
  clear hr hl
  go_enter Try.func16, Try.ntmps16
  go_wp2_with fail
  go_loopw [3, 4] (fun s3 i wr => ∃ k : Nat, k ≤ l.length ∧ i = .int .i64 k ∧ Own strCells 1 9 wr w.heap.size s3 ((l.take k).map En.key) ∧ Below w.heap.size w wr) (fun _ i _ => l.length - (intOf i).toNat)
  case atStart => exact ⟨0, Nat.zero_le _, rfl, Own.nil_, Below.refl _ _⟩
  case round =>
    obtain ⟨k, hk, rfl, ho, hb⟩ := hrel
    have HO := Lib.hid ho
    have HB := Lib.hid hb
    clear ho hb
    by_cases hlt : k < l.length
    · obtain ⟨x, hx⟩ : ∃ x, l[k]? = some x := ⟨_, List.getElem?_eq_getElem hlt⟩
      obtain ⟨b, off, rfl, hbw, d0, _, _, _⟩ := en_at (HR.out.below HB.out (Nat.le_refl _)) hx
      have hll : ((l.take k).map En.key).length = k := by rw [List.length_map, List.length_take]; omega
      have HX := Lib.hid hx
      have HLK := Lib.hid hll
      clear hx hll
      have hle := HLL.out
      go_wp2_with (at_builtin; go_must (refine wpList_append_rec (cs := strCells) rfl _ _ 30 rfl 9 i9 _ 16 Try.underlying30 hi9 hz0 hz1 hz2 rfl (by decide) strCells_len strCells_one wr w.heap.size wr.heap.size u3 ((l.take k).map En.key) x.key _ rfl (by rfl) (by rfl) rfl HO.out (by rw [HLK.out]; have := HLL.out; unfold maxLen; omega) (by rw [HLK.out]; have := HLL.out; omega) HB.out.size ?_; intro g4 cap4 w4 ho4 hg4 hb4 hl4; have HO4 := Lib.hid ho4; have HG4 := Lib.hid hg4; clear ho4 hg4 hb4 hl4))
      go_roundw
      case rel =>
        refine ⟨k + 1, by omega, by go_num, ?_, HB.out.grown HG4.out HB.out.size (fun q hq => (Own.lt HO.out q hq).1)⟩
        rw [take_snoc HX.out, List.map_append]
        have h4 := HO4.out
        rw [HLK.out] at h4
        simpa [HLK.out] using h4
      case measure => simp only [intOf]; omega
    · have hke : k = l.length := by omega
      subst hke
      go_wp2_with fail
      go_ret
      have ho := HO.out
      rw [List.take_length] at ho
      refine ⟨_, rfl, ?_, fun q hq => (Own.lt ho q hq).1, HB.out⟩
      have ho2 := ho
      unfold Own at ho2
      rw [flat_str] at ho2
      exact OffRow.of_own (by simpa using ho2)
section
variable {w w' : World} {r : Nat} {S : RS} {kv mv : Value} {k : ByteArray} {who x : Int} {f : RFl}
/-- The keys of a row of the document's. -/
theorem keys_own {w : World} {v : Value} {l : List En} (h : Own En.cells 4 92 w 0 v l) (hl : l.length ≤ 1000) : Calls Try.prog 16 #[v] w (KeysR w (l.map En.key)) := by
  obtain ⟨A, c, rfl, hrow⟩ := Own.row En.len h
  exact keys_any A c l w hl hrow
theorem keys_kept (h : RefAt w r S kv mv) (hl : S.kept.length ≤ 1000) : Calls Try.prog 16 #[kv] w (KeysR w (keys S.abs.kept)) := by
  have := keys_own h.kept (by rw [List.length_map]; exact hl)
  simpa [keys, RS.abs, List.map_map, Function.comp_def, enK] using this
theorem keys_making (h : RefAt w r S kv mv) (hl : S.making.length ≤ 1000) : Calls Try.prog 16 #[mv] w (KeysR w (keys S.abs.making)) := by
  have := keys_own h.making (by rw [List.length_map]; exact hl)
  simpa [keys, RS.abs, List.map_map, Function.comp_def, enM] using this
theorem RefGive (k : ByteArray) (who x : Int) {A : AS Int} {F : List Nat} (h : RefHeld w r A F) (hsm : SmA A 900) :
    Calls Try.prog 23 #[.pointer (some ⟨r, 0, none⟩), .string k, .int .i64 who, .int .i64 x] w fun e w' => ∃ v c F', e = .returned (.tuple #[v, .int .i64 c]) ∧ GaveH w' F F' (giveA A k who x).2 v c ∧ RefHeld w' r (giveA A k who x).1 F' ∧ Grow F F' w ∧ Only F w w' := by
  obtain ⟨S, kv, mv, h, rfl, rfl⟩ := h
  have hb1 : S.kept.length ≤ 900 := hsm.kept
  have hb2 : S.making.length ≤ 1000 := by have := hsm.making; simp [RS.abs] at this; omega
  rcases Classical.em (∀ f, getK S.making k = some f → ¬ f.who = who) with hno | hyes
  · have e : giveA S.abs k who x = (S.abs, none) := by
      unfold giveA; rw [rabs_making]
      cases hf : getK S.making k with
      | none => rfl
      | some f => simp [rA, hno f hf]
    rw [e]
    refine (refGive_none h hno hb2).mono ?_
    rintro e w' ⟨rfl, q, rfl⟩
    exact ⟨_, _, _, rfl, ⟨rfl, rfl⟩, ⟨S, kv, mv, h.keep (fun b _ => rfl), rfl, rfl⟩, fun b hb => .inl hb, ⟨rfl, rfl, rfl, Nat.le_refl _, fun _ _ _ => rfl⟩⟩
  · obtain ⟨f, hf, rfl⟩ : ∃ f, getK S.making k = some f ∧ f.who = who := by
      refine Classical.byContradiction fun hn => hyes fun f hf e => hn ⟨f, hf, e⟩
    have e : giveA S.abs k f.who x = (({ S with making := dropK S.making k, kept := if S.most < S.kept.length + 1 then (S.kept ++ [(k, x)]).tail else S.kept ++ [(k, x)] } : RS).abs, some f.wait) := by
      unfold giveA; rw [rabs_making, hf]
      simp only [Option.map_some, rA, if_true]
      have := dropK_map rA S.making k
      simp only [rA] at this
      unfold RS.abs
      simp only [Prod.mk.injEq, AS.mk.injEq, true_and, and_true, rA]
      exact this
    rw [e]
    have key : ∀ A' e w', RefGave w r (rfoot S r kv mv) A' f.wait e w' → ∃ v c F', e = .returned (.tuple #[v, .int .i64 c]) ∧ GaveH w' (rfoot S r kv mv) F' (some f.wait) v c ∧ RefHeld w' r A' F' ∧ Grow (rfoot S r kv mv) F' w ∧ Only (rfoot S r kv mv) w w' := by
      rintro A' e w' ⟨v, F', rfl, h1, h2, h3, h4, h5⟩
      exact ⟨v, 0, F', rfl, ⟨h1, rfl, h2⟩, h3, h4, h5⟩
    by_cases hfull : S.most < S.kept.length + 1
    · rw [if_pos hfull]
      exact (refGive_full h hf hb1 hb2 hfull).mono (key _)
    · rw [if_neg hfull]
      exact (refGive_fit h hf hb1 hb2 (by omega)).mono (key _)
/-- Waiting hands back the memo's own row. -/
theorem refWaiting (h : RefAt w r S kv mv) (hl : S.making.length ≤ 1000) (k : ByteArray) :
    Calls Try.prog 19 #[.pointer (some ⟨r, 0, none⟩), .string k] w fun e w' => (∃ v, e = .returned v ∧ OffRow 3 w v ((waitA S.abs k).map (Value.int .i64)) ∧ ∀ q, v.ownBlock = some q → q ∈ rfoot S r kv mv) ∧ ∃ q, w' = w.drewN q := by
  obtain ⟨r0, r1, r2, rz⟩ := rcells h.obj
  cases hg : getK S.making k with
  | none =>
    have hwa : waitA S.abs k = [] := by unfold waitA; rw [rabs_making, hg]; rfl
    rw [hwa]
    have F1 := Lib.hid (findM_none h.making hl h.umaking hg)
    clear h hg
    go_enter Try.func19, Try.ntmps19
    go_wp2_with (go_at_call 41; refine F1.out.mono ?_; rintro e w1 ⟨rfl, q1, rfl⟩)
    go_ret
    exact ⟨⟨_, rfl, OffRow.nil_, fun q hq => by simp [Value.ownBlock] at hq⟩, _, rfl⟩
  | some f =>
    have hwa : waitA S.abs k = f.wait := by unfold waitA; rw [rabs_making, hg]; rfl
    rw [hwa]
    obtain ⟨i, hi, _, hc⟩ := findM_some h.making hl h.umaking hg
    have hil : i < S.making.length := (List.getElem?_eq_some_iff.1 hi).1
    have hem : (S.making.map enM)[i]? = some (enM (k, f)) := by rw [List.getElem?_map, hi]; rfl
    obtain ⟨g, cap, hmv, _, _, _, hrow⟩ := h.making.form (l := S.making.map enM) (by intro e; simp at e; rw [e] at hil; simp at hil)
    obtain ⟨b, off, e, _, d0, d1, d2, d3⟩ := en_at hrow hem
    simp only [Option.some.injEq, Addr.mk.injEq, and_true] at e
    obtain ⟨rfl, rfl⟩ := e
    rw [List.length_map] at hmv
    subst hmv
    simp only [Nat.zero_add, enM] at d0 d1 d2 d3
    have hi0 : (0 : Int) ≤ (i : Int) := by omega
    have hi1 : (i : Int) < (S.making.length : Int) := by omega
    have hin : ¬ (i : Int) < 0 := by omega
    have F1 := Lib.hid hc
    have HE := Lib.hid (show OffRow 3 w f.ws (f.wait.map (Value.int .i64)) ∧ ∀ q, f.ws.ownBlock = some q → q ∈ rfoot S r kv (.slice (some ⟨g, 0, none⟩) S.making.length cap) from ⟨h.ws _ (getK_mem hg), fun q hq => rfoot_ws (getK_mem hg) hq⟩)
    clear h hg hc hi hem hrow hl hil hwa
    go_enter Try.func19, Try.ntmps19
    go_wp2_with (go_at_call 41; refine F1.out.mono ?_; rintro e w1 ⟨rfl, q1, rfl⟩)
    go_ret
    exact ⟨⟨f.ws, rfl, HE.out.1, HE.out.2⟩, _, rfl⟩
end
end

section
open Go.RowKit Go.Maps Go.Sort
set_option linter.unusedVariables false
set_option linter.unusedSimpArgs false
def makerA (A : AS Int) (k : ByteArray) : Int := match getK A.making k with | some f => f.1 | none => 0
section
variable {w w' : World} {r : Nat} {S : RS} {kv mv : Value} {k : ByteArray}
set_option maxRecDepth 100000 in
theorem maker_any (h : RefAt w r S kv mv) (hl : S.making.length ≤ 1000) (k : ByteArray) :
    Calls Try.prog 39 #[.pointer (some ⟨r, 0, none⟩), .string k] w fun e w' => e = .returned (.int .i64 (makerA S.abs k)) ∧ ∃ q, w' = w.drewN q := by
  obtain ⟨r0, r1, r2, rz⟩ := rcells h.obj
  obtain ⟨A, c, hmv, hrow⟩ := Own.row En.len h.making
  rw [List.length_map] at hmv
  subst hmv
  have H := Lib.hid h
  have HR := Lib.hid hrow
  clear h hrow
  go_enter Try.func39, Try.ntmps39
  go_wp2_with fail
  go_loopw [5] (fun i wr => ∃ j : Nat, j ≤ S.making.length ∧ i = .int .i64 j ∧ (∀ j' p, S.making[j']? = some p → j' < j → p.1 ≠ k) ∧ ∃ q, wr = w.drewN q) (fun i _ => S.making.length - (intOf i).toNat)
  case atStart => exact ⟨0, Nat.zero_le _, rfl, fun j _ _ h => absurd h (Nat.not_lt_zero _), 0, rfl⟩
  case round =>
    obtain ⟨j, hj, rfl, hno, q, rfl⟩ := hrel
    have HNO := Lib.hid hno
    clear hno
    by_cases hlt : j < S.making.length
    · obtain ⟨⟨pk, pf⟩, hx⟩ : ∃ x, S.making[j]? = some x := ⟨_, List.getElem?_eq_getElem hlt⟩
      have hem : (S.making.map enM)[j]? = some (enM (pk, pf)) := by rw [List.getElem?_map, hx]; rfl
      obtain ⟨b, off, rfl, hb, d0, d1, d2, d3⟩ := en_at HR.out hem
      simp only [enM] at d0 d1 d2 d3
      have HX := Lib.hid hx
      clear hx hem
      by_cases he : pk = k
      · have he2 : (pk.toList == k.toList) = true := by rw [he]; simp
        have HE := Lib.hid he
        clear he
        go_wp2_with fail
        go_ret
        refine ⟨?_, q, rfl⟩
        have hx := HX.out
        rw [HE.out] at hx
        have := (idx_of H.out.umaking hx).1
        unfold makerA
        rw [rabs_making, this]; rfl
      · have he2 : (pk.toList == k.toList) = false := by
          simp only [beq_eq_false_iff_ne, ne_eq]
          exact fun e => he (by rw [ByteArray.toList_eq, ByteArray.toList_eq] at e; exact ByteArray.ext (Array.toList_inj.1 e))
        have HE := Lib.hid he
        clear he
        go_wp2_with fail
        go_roundw
        case rel => exact ⟨j + 1, by omega, by go_num, fun j' z hj' h => by
          rcases Nat.lt_or_ge j' j with h1 | h1
          · exact HNO.out j' z hj' h1
          · obtain rfl : j' = j := by omega
            have e := HX.out
            rw [hj'] at e
            cases e
            exact HE.out, q, rfl⟩
        case measure => simp only [intOf]; omega
    · have hke : j = S.making.length := by omega
      subst hke
      go_wp2_with fail
      go_ret
      refine ⟨?_, q, rfl⟩
      have hn : getK S.making k = none := getK_none.2 fun hm => by
        obtain ⟨p, hp, e⟩ := List.mem_map.1 hm
        obtain ⟨j', hj', e2⟩ := List.getElem_of_mem hp
        exact HNO.out j' p (by rw [List.getElem?_eq_getElem hj', e2]) hj' e
      unfold makerA
      rw [rabs_making, hn]; rfl
end
end
end Go.Proofs.Ytjghbcligjiaaaa
