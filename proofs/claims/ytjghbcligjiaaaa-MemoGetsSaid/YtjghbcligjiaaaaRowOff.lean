/- A row of one-cell elements that begins anywhere in its block. Generic over the program. -/
import Derived.WalkKit
import Derived.Lib.Hide
import Derived.Deep.AppendLies
import Derived.Maps.OwnSet
import Derived.Maps.AppendAt
import Derived.OwnWalk
import Derived.Sort.Row
namespace Go.Proofs.Ytjghbcligjiaaaa
open Go.RowKit
set_option linter.unusedVariables false

/-- The slice v is a row of cells l (elements of one cell) in a block of its own, from an offset on, with room behind it perhaps. -/
def OffRow (e : TypeId) (w : World) (v : Value) (l : List Value) : Prop :=
  (v = .slice none 0 0 ∧ l = []) ∨ ∃ g off cap cur, v = .slice (some ⟨g, off, none⟩) l.length cap ∧ w.heap[g]? = some (.cells cur e (0, 0)) ∧ l.length ≤ cap ∧ cap ≤ maxLen ∧ cur.size = off + cap ∧ (cur.toList.drop off).take l.length = l

section
variable {e : TypeId} {w w' : World} {v : Value} {l : List Value}
theorem OffRow.nil_ : OffRow e w (.slice none 0 0) [] := .inl ⟨rfl, rfl⟩
theorem OffRow.lt (h : OffRow e w v l) : ∀ k, v.ownBlock = some k → k < w.heap.size := by
  intro k hk
  rcases h with ⟨rfl, _⟩ | ⟨g, off, cap, cur, rfl, hg, _⟩
  · simp [Value.ownBlock] at hk
  · simp [Value.ownBlock] at hk
    subst hk
    exact (Array.getElem?_eq_some_iff.1 hg).1
theorem OffRow.keep (h : OffRow e w v l) (hk : ∀ k, v.ownBlock = some k → w'.heap[k]? = w.heap[k]?) : OffRow e w' v l := by
  rcases h with h | ⟨g, off, cap, cur, rfl, hg, rest⟩
  · exact .inl h
  · refine .inr ⟨g, off, cap, cur, rfl, ?_, rest⟩
    rw [hk g rfl]; exact hg
theorem OffRow.len (h : OffRow e w v l) : ∃ A c, v = .slice A l.length c ∧ l.length ≤ maxLen := by
  rcases h with ⟨rfl, rfl⟩ | ⟨g, off, cap, cur, rfl, _, h1, h2, _⟩
  · exact ⟨none, 0, rfl, Nat.zero_le _⟩
  · exact ⟨_, _, rfl, by omega⟩
theorem OffRow.form (h : OffRow e w v l) (hn : l ≠ []) : ∃ g off cap, v = .slice (some ⟨g, off, none⟩) l.length cap ∧ l.length ≤ cap ∧ g < w.heap.size ∧ (∀ j u, l[j]? = some u → w.cell? ⟨g, off + j, none⟩ = some u) ∧ (∀ j, w.frozen? ⟨g, j, none⟩ = false) := by
  rcases h with ⟨_, h⟩ | ⟨g, off, cap, cur, hv, hg, h1, h2, h3, h4⟩
  · exact absurd h hn
  · refine ⟨g, off, cap, hv, h1, (Array.getElem?_eq_some_iff.1 hg).1, fun j u hu => ?_, fun j => ?_⟩
    · rw [cell_of_row w g (off + j) cur e (0, 0) hg]
      rw [← h4, List.getElem?_take] at hu
      split at hu
      · rw [List.getElem?_drop] at hu
        simpa using hu
      · cases hu
    · unfold World.frozen?
      rw [hg]
      simp
/-- A row made anew. -/
theorem OffRow.made (W : World) (arr : Array Value) (hm : arr.size ≤ maxLen) : OffRow e (W.alloc (.cells arr e)) (.slice (some ⟨W.heap.size, 0, none⟩) arr.size arr.size) arr.toList := by
  refine .inr ⟨W.heap.size, 0, arr.size, arr, by simp, heap_alloc_new W _, by simp, hm, by simp, by rw [List.drop_zero]; exact List.take_of_length_le (by simp)⟩
theorem OffRow.of_own {base : Nat} (h : w.ownsRow base e 1 v l.length l) : OffRow e w v l := by
  rcases h.2 with ⟨h1, h2⟩ | ⟨g, cap, cur, h1, h2, h3, h4, h5, h6, h7⟩
  · exact .inl ⟨h1, List.eq_nil_of_length_eq_zero h2⟩
  · exact .inr ⟨g, 0, cap, cur, h1, h3, h4, h5, by omega, by simpa using h7⟩
/-- Behind its first element. -/
theorem OffRow.tail {x : Value} {g off n cap : Nat} (h : OffRow e w (.slice (some ⟨g, off, none⟩) n cap) (x :: l)) : OffRow e w (.slice (some ⟨g, off + 1, none⟩) (n - 1) (cap - 1)) l := by
  rcases h with ⟨_, h⟩ | ⟨g', off', cap', cur, hv, hg, h1, h2, h3, h4⟩
  · cases h
  · simp only [Value.slice.injEq, Option.some.injEq, Addr.mk.injEq] at hv
    obtain ⟨⟨rfl, rfl, _⟩, rfl, rfl⟩ := hv
    simp only [List.length_cons] at h1 h4 ⊢
    refine .inr ⟨g, off + 1, cap - 1, cur, by simp, hg, by omega, by omega, by omega, ?_⟩
    have h5 : cur.toList.drop off = (cur.toList.drop off).take (l.length + 1) ++ (cur.toList.drop off).drop (l.length + 1) := (List.take_append_drop _ _).symm
    rw [← List.drop_drop, h5, h4]
    simp
end

section
variable {P : Program} (w : World)
/-- append of one element. -/
theorem run_append_off (t ty : TypeId) (e : TypeId) (i : TypeInfo) (z : Value) (bytes : Nat) (ht : P.underlying t = some (.slice e)) (hi : P.info? e = some i) (hz : i.zero = some z)
    (hsize : i.size = 1) (hby : i.bytes = bytes) (hzs : z.cells.size = 1) (v : Value) (l : List Value) (hown : OffRow e w v l)
    (a : Addr) (u : Value) (hu : w.cell? (a.add 0) = some u) (h1 : u.oneCell' = true) (h63 : l.length + 1 ≤ maxLen) (hbytes : (l.length + 1) * bytes ≤ 140737488355328) :
    ∃ g off cap w', (Builtin.append_ #[t, t] ty #[v, .slice (some a) 1 1]).run P w = .ok (.slice (some ⟨g, off, none⟩) (l.length + 1) cap) w' ∧ OffRow e w' (.slice (some ⟨g, off, none⟩) (l.length + 1) cap) (l ++ [u]) ∧ w.grownBy w' v.ownBlock ∧
      (v.ownBlock = some g ∨ g = w.heap.size) := by
  subst hby
  have hnews : ∀ j x, [u][j]? = some x → w.cell? (a.add j) = some x := fun j x hx => by
    cases j with
    | zero => simp at hx; subst hx; exact hu
    | succ j => simp at hx
  have hll : (l ++ [u]).length = l.length + 1 := by simp
  have hm63 : l.length + 1 ≤ 9223372036854775807 := by simp only [maxLen] at h63; omega
  rcases hown with ⟨rfl, rfl⟩ | ⟨g, off, cap, cur, rfl, hg, hc, hcm, hcs, htake⟩
  · have hr := run_append_nil (P := P) w t ty e i z ht hi hz a 1 1 [u] (by simp [hsize]) hnews (by decide) (by decide) (by simp only [List.length_nil, Nat.zero_add] at hbytes; omega)
    refine ⟨_, _, _, _, hr, ?_, ⟨rfl, rfl, rfl, by simp, fun k hk _ => heap_alloc_old w.drew _ hk⟩, .inr rfl⟩
    have hge := grownCap_ge w 1 0 e
    refine .inr ⟨w.heap.size, 0, _, _, rfl, heap_alloc_new w.drew _, by simpa using hge, grownCap_le_maxLen w 1 0 e (by simpa using h63), ?_, ?_⟩
    · simp [size_zeroCells, hzs]; omega
    · simp
  · by_cases hroom : l.length + 1 ≤ cap
    · have hst := run_storeCells_at P g (off + l.length) e [u] 0 cur w hg (by simp; omega) (by simpa using h1)
      have hf := run_firstCells_some (P := P) w 1 1 a 1 1 [u] (by simp) hnews
      have hr : (Builtin.append_ #[t, t] ty #[.slice (some ⟨g, off, none⟩) l.length cap, .slice (some a) 1 1]).run P w = .ok (.slice (some ⟨g, off, none⟩) (l.length + 1) cap) (w.setRow g (cur.toList.take (off + l.length) ++ [u] ++ cur.toList.drop (off + l.length + 1)).toArray) := by
        simp only [Nat.add_zero, List.length_singleton] at hst
        simp [Builtin.append_, run_underlying ht, sizeOf, typeInfo, hi, hsize, Builtin.lenOf, hroom, hf, Addr.add_lit, hst]
      refine ⟨g, off, cap, _, hr, ?_, ⟨rfl, rfl, rfl, by simp, fun k _ hk => setRow_other w g k _ (fun e => hk (by simp [Value.ownBlock, e]))⟩, .inl rfl⟩
      refine .inr ⟨g, off, cap, _, by rw [hll], setRow_heap w g cur _ e _ hg, by rw [hll]; exact hroom, hcm, ?_, ?_⟩
      · simp only [List.size_toArray, List.length_append, List.length_take, List.length_drop, Array.length_toList, List.length_singleton]
        omega
      · rw [hll]
        simp only []
        have e1 : (cur.toList.take (off + l.length)).drop off = l := by
          rw [List.drop_take, show off + l.length - off = l.length by omega]
          exact htake
        have e2 : (cur.toList.take (off + l.length)).length = off + l.length := by
          rw [List.length_take, Array.length_toList (xs := cur)]; omega
        rw [List.append_assoc, List.drop_append, e1, e2, show off - (off + l.length) = 0 by omega, List.drop_zero, ← List.append_assoc]
        rw [List.take_append_of_le_length (by simp)]
        exact List.take_of_length_le (by simp)
    · have holds : ∀ j x, l[j]? = some x → w.cell? ((⟨g, off, none⟩ : Addr).add j) = some x := fun j x hx => by
        rw [Addr.add_lit, cell_of_row w g (off + j) cur e (0, 0) hg]
        rw [← htake, List.getElem?_take] at hx
        split at hx
        · rw [List.getElem?_drop] at hx
          simpa using hx
        · cases hx
      have hr := run_append_grow (P := P) w t ty e i z ht hi hz ⟨g, off, none⟩ l.length cap l (by rw [hsize, Nat.mul_one]) holds a 1 1 [u] (by simp [hsize]) hnews (by omega) (by omega) (growslice_fits (by omega) hbytes)
      refine ⟨_, _, _, _, hr, ?_, ⟨rfl, rfl, rfl, by simp, fun k hk _ => heap_alloc_old w.drew _ hk⟩, .inr rfl⟩
      have hge := grownCap_ge w (l.length + 1) cap e
      refine .inr ⟨w.heap.size, 0, _, _, by rw [hll], heap_alloc_new w.drew _, by rw [hll]; exact hge, grownCap_le_maxLen w (l.length + 1) cap e h63, ?_, ?_⟩
      · simp [size_zeroCells, hzs]; omega
      · rw [hll]
        simp only [Array.toList_append, List.drop_zero]
        rw [List.take_append_of_le_length (by simp), List.take_of_length_le (by simp)]
/-- append of one element, at the operation. -/
theorem wpList_append_off {ops : Array Oper} {rest : List Oper} {o : Oper} {a : Act} {Q : Exit → Act → World → Prop} (hgd : o.guard = none) (s x : Operand) (t : TypeId)
    (ho : o.op = .call { callee := .builtin .append, args := #[s, x], argTypes := #[t, t] })
    (e : TypeId) (i : TypeInfo) (z : Value) (bytes : Nat) (ht : P.underlying t = some (.slice e)) (hi : P.info? e = some i) (hz : i.zero = some z)
    (hsize : i.size = 1) (hby : i.bytes = bytes) (hzs : z.cells.size = 1) (v : Value) (l : List Value) (hs : a.eval s = v) (hown : OffRow e w v l)
    (ad : Addr) (u : Value) (hx : a.eval x = .slice (some ad) 1 1) (hu : w.cell? (ad.add 0) = some u) (h1 : u.oneCell' = true) (h63 : l.length + 1 ≤ maxLen) (hbytes : (l.length + 1) * bytes ≤ 140737488355328)
    (h : ∀ g off cap w', OffRow e w' (.slice (some ⟨g, off, none⟩) (l.length + 1) cap) (l ++ [u]) → w.grownBy w' v.ownBlock → (v.ownBlock = some g ∨ g = w.heap.size) → wpList P ops Q rest (a.put o.dst (.slice (some ⟨g, off, none⟩) (l.length + 1) cap)) w') : wpList P ops Q (o :: rest) a w := by
  refine wpList_plain hgd fun _ hK => ?_
  obtain ⟨g, off, cap, w', hr, h2, h3, h4⟩ := run_append_off (P := P) w t o.type e i z bytes ht hi hz hsize hby hzs v l hown ad u hu h1 h63 hbytes
  unfold Oper.wp execOp
  simp only [ho, resolve, invoke, builtin, Sem.run_bind, Sem.run_pure, Result.andThen_ok, List.map_toArray, List.map_cons, List.map_nil, hs, hx, hr]
  exact hK _ _ (h g off cap w' h2 h3 h4)
end
end Go.Proofs.Ytjghbcligjiaaaa
