/- append of one record within a region that draws its order. Generic over the program. -/
import Derived.Test.YtjghbcligjiaaaaMem
import Derived.Deep.RegionHeld3
namespace Go.Proofs.Ytjghbcligjiaaaa
open Go.RowKit
variable {P : Program} {α : Type} {cs : α → List Value} {sz : Nat}

theorem new_at {w : World} {o : Obj} {g : Nat} (hg : g = w.heap.size) : (w.alloc o).heap[g]? = some o := by subst hg; exact heap_alloc_new _ _

theorem step_append_rec {ops : Array Oper} {o : Oper} {a : Act} {K : Act → World → Prop} {Q : Exit → Act → World → Prop} {E : Prop} (hgd : o.guard = none) (s x : Operand) (t : TypeId)
    (ho : o.op = .call { callee := .builtin .append, args := #[s, x], argTypes := #[t, t] })
    (e : TypeId) (i : TypeInfo) (z : Value) (bytes : Nat) (ht : P.underlying t = some (.slice e)) (hi : P.info? e = some i) (hz : i.zero = some z)
    (hsize : i.size = sz) (hby : i.bytes = bytes) (hzs : z.cells.size = sz) (hsz : 0 < sz) (hone : ∀ y, (cs y).length = sz) (hone1 : ∀ y, ∀ u ∈ cs y, u.oneCell' = true)
    (w : World) (B g0 : Nat) (v : Value) (l : List α) (y : α) (arr : Array Value) (fr : Nat × Nat) (harr : arr = (cs y).toArray) (hs : a.eval s = v) (hx : a.eval x = .slice (some ⟨g0, 0, none⟩) 1 1)
    (hg0 : w.heap[g0]? = some (.cells arr e fr)) (hown : Own cs sz e w B v l) (h63 : l.length + 1 ≤ maxLen) (hbytes : (l.length + 1) * bytes ≤ 140737488355328) (hbase : B ≤ w.heap.size) (H : Nat) (hH : w.heap.size = H)
    (h : ∀ g cap w', Own cs sz e w' B (.slice (some ⟨g, 0, none⟩) (l.length + 1) cap) (l ++ [y]) → w.grownBy w' v.ownBlock → (v.ownBlock = some g ∨ g = H) → g < w'.heap.size →
      K (a.put o.dst (.slice (some ⟨g, 0, none⟩) (l.length + 1) cap)) w') :
    if Region.wanted o (yielded ops a.tmps) = true then Oper.wp P o a w K Q else E := by
  subst harr
  refine step_append_lies _ hgd s x t ho B e i z sz bytes ht hi hz hsize hby hzs hsz v l.length (l.flatMap cs) hs hown ⟨g0, 0, none⟩ 1 1 (cs y) hx (by rw [hone]; omega)
    ?_ (hone1 y) (by omega) h63 hbytes hbase H hH ?_
  · have := World.news_of_block hg0
    simpa using this
  · intro g cap w' hown' hg hat hlt
    refine h g cap w' ?_ hg hat hlt
    unfold Own
    simpa [List.flatMap_append] using hown'

/-- append(out, x) of one record onto a row of the call's own, the record laid in a new block just before; the new value written out. -/
theorem wpList_append_rec {ops : Array Oper} {rest : List Oper} {o : Oper} {a : Act} {Q : Exit → Act → World → Prop} (hgd : o.guard = none) (s x : Operand) (t : TypeId)
    (ho : o.op = .call { callee := .builtin .append, args := #[s, x], argTypes := #[t, t] })
    (e : TypeId) (i : TypeInfo) (z : Value) (bytes : Nat) (ht : P.underlying t = some (.slice e)) (hi : P.info? e = some i) (hz : i.zero = some z)
    (hsize : i.size = sz) (hby : i.bytes = bytes) (hzs : z.cells.size = sz) (hsz : 0 < sz) (hone : ∀ y, (cs y).length = sz) (hone1 : ∀ y, ∀ u ∈ cs y, u.oneCell' = true)
    (W : World) (B g0 : Nat) (v : Value) (l : List α) (y : α) (arr : Array Value) (harr : arr = (cs y).toArray) (hs : a.eval s = v) (hx : a.eval x = .slice (some ⟨g0, 0, none⟩) 1 1) (hgs : g0 = W.heap.size)
    (hown : Own cs sz e W B v l) (h63 : l.length + 1 ≤ maxLen) (hbytes : (l.length + 1) * bytes ≤ 140737488355328) (hbase : B ≤ W.heap.size)
    (h : ∀ g cap w', Own cs sz e w' B (.slice (some ⟨g, 0, none⟩) (l.length + 1) cap) (l ++ [y]) → W.grownBy w' v.ownBlock → (v.ownBlock = some g ∨ g = W.heap.size + 1) → g < w'.heap.size →
      wpList P ops Q rest (a.put o.dst (.slice (some ⟨g, 0, none⟩) (l.length + 1) cap)) w') :
    wpList P ops Q (o :: rest) a (W.alloc (.cells arr e)) := by
  refine wpList_append_one hgd s x t ho e i z bytes ht hi hz hsize hby hzs hsz hone hone1 W B g0 v l y arr harr hs hx hgs hown h63 hbytes hbase fun v' w' hown' hg hat => ?_
  obtain ⟨g, cap, hv, hB, hlt⟩ : ∃ g cap, v' = .slice (some ⟨g, 0, none⟩) (l.length + 1) cap ∧ True ∧ g < w'.heap.size := by
    rcases hown'.2 with ⟨_, h0⟩ | ⟨g, cap, cur, hv, _, hgg, _⟩
    · rw [List.length_append] at h0; simp at h0
    · exact ⟨g, cap, by rw [hv, List.length_append]; rfl, trivial, (Array.getElem?_eq_some_iff.1 hgg).1⟩
  rw [hv] at hown' hat ⊢
  refine h g cap w' hown' hg ?_ hlt
  simp only [Value.ownBlock, Option.some.injEq] at hat
  rcases hat with e | e
  · exact .inl e.symm
  · exact .inr e

end Go.Proofs.Ytjghbcligjiaaaa
