/- Words for memory: slices that read as lists of records, rows of the call's own. Generic over the program. -/
import Derived.WalkKit
import Derived.Outline
import Derived.Lib.Hide
import Derived.WalkLawsBesides
import Derived.WalkSpells
import Derived.Deep.AppendLies
import Derived.Deep.Draws
import Derived.Laws.OwnMore
import Derived.Maps.AppendAt
import Derived.OwnWalk
import Derived.Deep.QuietTactic
import Derived.BigQuiet
namespace Go.Proofs.Ytjghbcligjiaaaa
open Go.RowKit

section
variable {α : Type} {cs : α → List Value} {sz : Nat} {w w' : World} {B B' : Nat} {A : Option Addr} {l : List α}

/-- The slice over A reads as the records l (sz cells each, as cs says), all below block B. -/
def RowOf (cs : α → List Value) (sz : Nat) (w : World) (B : Nat) (A : Option Addr) (l : List α) : Prop :=
  0 < l.length → ∃ b off, A = some ⟨b, off, none⟩ ∧ b < B ∧ ∀ i x, l[i]? = some x → ∀ j v, (cs x)[j]? = some v → w.cell? ⟨b, off + i * sz + j, none⟩ = some v

theorem RowOf.nil_ : RowOf cs sz w B A [] := fun h => absurd h (by simp)

theorem RowOf.keep (h : RowOf cs sz w B A l) (hk : ∀ p : Addr, p.block < B → w'.cell? p = w.cell? p) : RowOf cs sz w' B A l := by
  intro hn
  obtain ⟨b, off, e, hb, hc⟩ := h hn
  exact ⟨b, off, e, hb, fun i x hx j v hv => (hk _ hb).trans (hc i x hx j v hv)⟩

theorem RowOf.below (h : RowOf cs sz w B A l) (hb : Below B' w w') (hB : B ≤ B') : RowOf cs sz w' B A l := h.keep fun _ hp => hb.cell (by omega)
theorem RowOf.more (h : RowOf cs sz w B A l) (hB : B ≤ B') : RowOf cs sz w B' A l := by
  intro hn
  obtain ⟨b, off, e, hb, hc⟩ := h hn
  exact ⟨b, off, e, by omega, hc⟩
theorem RowOf.drewN (h : RowOf cs sz w B A l) (k : Nat) : RowOf cs sz (w.drewN k) B A l := h
theorem RowOf.drew (h : RowOf cs sz w B A l) : RowOf cs sz w.drew B A l := h
theorem RowOf.alloc (h : RowOf cs sz w B A l) (hB : B ≤ w.heap.size) (o : Obj) : RowOf cs sz (w.alloc o) B A l :=
  h.keep fun p hp => World.cell?_alloc_lt w o p (by omega)
/-- all below a call's first block stays -/
theorem RowOf.after (h : RowOf cs sz w B A l) (hB : B ≤ w.heap.size) (hb : Below w.heap.size w w') : RowOf cs sz w' w'.heap.size A l :=
  (h.below hb hB).more (Nat.le_trans hB hb.size)
theorem RowOf.take (h : RowOf cs sz w B A l) (n : Nat) : RowOf cs sz w B A (l.take n) := by
  intro hn
  obtain ⟨b, off, e, hb, hc⟩ := h (by rw [List.length_take] at hn; omega)
  refine ⟨b, off, e, hb, fun i x hx => hc i x ?_⟩
  rw [List.getElem?_take] at hx
  split at hx
  · exact hx
  · cases hx

theorem flat_at (hs : ∀ x, (cs x).length = sz) : ∀ (l : List α) (i : Nat) (x : α), l[i]? = some x → ∀ j v, (cs x)[j]? = some v → (l.flatMap cs)[i * sz + j]? = some v := by
  intro l
  induction l with
  | nil => intro i x hx; simp at hx
  | cons y l ih =>
    intro i x hx j v hv
    rw [List.flatMap_cons]
    cases i with
    | zero =>
      simp at hx
      subst hx
      have hj : j < (cs y).length := by
        rcases Nat.lt_or_ge j (cs y).length with h | h
        · exact h
        · rw [List.getElem?_eq_none h] at hv; cases hv
      rw [Nat.zero_mul, Nat.zero_add, List.getElem?_append_left hj]
      exact hv
    | succ i =>
      simp at hx
      rw [Nat.succ_mul, List.getElem?_append_right (by rw [hs]; omega), hs]
      rw [show i * sz + sz + j - sz = i * sz + j by omega]
      exact ih i x hx j v hv

theorem flat_len (hs : ∀ x, (cs x).length = sz) (l : List α) : (l.flatMap cs).length = l.length * sz := by
  induction l with
  | nil => simp
  | cons y l ih => rw [List.flatMap_cons, List.length_append, hs, ih, List.length_cons, Nat.succ_mul]; omega

/-- A block laid anew that holds the records. -/
theorem RowOf.made (hs : ∀ x, (cs x).length = sz) (W : World) (arr : Array Value) (e : TypeId) (fz : Nat × Nat) (h : arr.toList = l.flatMap cs) (g : Nat) (hg : g = W.heap.size) :
    RowOf cs sz (W.alloc (.cells arr e fz)) (W.alloc (.cells arr e fz)).heap.size (some ⟨g, 0, none⟩) l := by
  subst hg
  intro _
  refine ⟨W.heap.size, 0, rfl, by simp, fun i x hx j u hu => ?_⟩
  have hf := flat_at hs l i x hx j u hu
  rw [cell_of_row _ _ _ _ _ _ (heap_alloc_new W _), Nat.zero_add, ← Array.getElem?_toList, h]
  exact hf

/-- A row of the call's own: from block B on, nobody else's, with room behind it perhaps. -/
def Own (cs : α → List Value) (sz : Nat) (e : TypeId) (w : World) (B : Nat) (v : Value) (l : List α) : Prop :=
  w.ownsRow B e sz v l.length (l.flatMap cs)

variable {e : TypeId} {v : Value}
theorem Own.nil_ : Own cs sz e w B (.slice none 0 0) [] := World.ownsRow_nil w B e sz
theorem Own.lt (h : Own cs sz e w B v l) : ∀ k, v.ownBlock = some k → B ≤ k ∧ k < w.heap.size := World.ownsRow.lt h
theorem Own.alloc (h : Own cs sz e w B v l) (o : Obj) : Own cs sz e (w.alloc o) B v l := World.ownsRow.alloc h o
theorem Own.below (h : Own cs sz e w B v l) (hb : Below w.heap.size w w') : Own cs sz e w' B v l := by
  refine ⟨h.1, ?_⟩
  rcases h.2 with hn | ⟨g, cap, cur, rfl, hB, hgg, rest⟩
  · exact .inl hn
  · exact .inr ⟨g, cap, cur, rfl, hB, by rw [hb.block g (Array.getElem?_eq_some_iff.1 hgg).1]; exact hgg, rest⟩
theorem Own.drew (h : Own cs sz e w B v l) : Own cs sz e w.drew B v l := h
theorem Own.drewN (h : Own cs sz e w B v l) (k : Nat) : Own cs sz e (w.drewN k) B v l := h
theorem Own.kept {row : Option Nat} (h : Own cs sz e w B v l) (hg : w.grownBy w' row) (hne : v.ownBlock = none ∨ v.ownBlock ≠ row) : Own cs sz e w' B v l := World.ownsRow.kept h hg hne

/-- What a row of the call's own reads as. -/
theorem Own.row (hs : ∀ x, (cs x).length = sz) (h : Own cs sz e w B v l) : ∃ A c, v = .slice A l.length c ∧ RowOf cs sz w w.heap.size A l := by
  have h0 := h
  rcases h.2 with ⟨rfl, hn⟩ | ⟨g, cap, cur, rfl, hB, hgg, hcap, hm, hsz, htake⟩
  · exact ⟨none, 0, by rw [hn], fun hp => absurd hn (by omega)⟩
  · refine ⟨some ⟨g, 0, none⟩, cap, rfl, fun hp => ⟨g, 0, rfl, (Array.getElem?_eq_some_iff.1 hgg).1, fun i x hx j u hu => ?_⟩⟩
    have hf := flat_at hs l i x hx j u hu
    have hlt : i * sz + j < l.length * sz := by
      have h1 : i * sz + j < (l.flatMap cs).length := by
        rcases Nat.lt_or_ge (i * sz + j) (l.flatMap cs).length with h | h
        · exact h
        · rw [List.getElem?_eq_none h] at hf; cases hf
      rwa [flat_len hs] at h1
    rw [Nat.zero_add, World.ownsRow.cellAt h0 (i * sz + j) hlt]
    exact hf

end

section
variable {P : Program} {α : Type} {cs : α → List Value} {sz : Nat}

/-- append(out, x) of one record onto a row of the call's own, the record laid in a new block just before. -/
theorem wpList_append_one {ops : Array Oper} {rest : List Oper} {o : Oper} {a : Act} {Q : Exit → Act → World → Prop} (hgd : o.guard = none) (s x : Operand) (t : TypeId)
    (ho : o.op = .call { callee := .builtin .append, args := #[s, x], argTypes := #[t, t] })
    (e : TypeId) (i : TypeInfo) (z : Value) (bytes : Nat) (ht : P.underlying t = some (.slice e)) (hi : P.info? e = some i) (hz : i.zero = some z)
    (hsize : i.size = sz) (hby : i.bytes = bytes) (hzs : z.cells.size = sz) (hsz : 0 < sz) (hone : ∀ y, (cs y).length = sz) (hone1 : ∀ y, ∀ u ∈ cs y, u.oneCell' = true)
    (W : World) (B g : Nat) (v : Value) (l : List α) (y : α) (arr : Array Value) (harr : arr = (cs y).toArray) (hs : a.eval s = v) (hx : a.eval x = .slice (some ⟨g, 0, none⟩) 1 1) (hgs : g = W.heap.size)
    (hown : Own cs sz e W B v l) (h63 : l.length + 1 ≤ maxLen) (hbytes : (l.length + 1) * bytes ≤ 140737488355328) (hbase : B ≤ W.heap.size)
    (h : ∀ v' w', Own cs sz e w' B v' (l ++ [y]) → W.grownBy w' v.ownBlock → (v'.ownBlock = v.ownBlock ∨ v'.ownBlock = some (W.heap.size + 1)) → wpList P ops Q rest (a.put o.dst v') w') :
    wpList P ops Q (o :: rest) a (W.alloc (.cells arr e)) := by
  subst hgs harr
  refine wpList_append_own_at _ hgd s x t ho B e i z sz bytes ht hi hz hsize hby hzs hsz v l.length (l.flatMap cs) hs (World.ownsRow.alloc hown _) ⟨W.heap.size, 0, none⟩ 1 1 (cs y) hx (by rw [hone]; omega)
    ?_ (hone1 y) h63 hbytes (by simp; omega) ?_
  · intro j u hu
    rw [Addr.add_lit, Nat.zero_add, World.cell?_alloc_at _ _ _ _ rfl]
    simpa using hu
  · intro v' w' hown' hg _ hat
    refine h v' w' ?_ ((World.grownBy_alloc W _ v.ownBlock).trans hg) (by simpa using hat)
    unfold Own
    simpa [List.flatMap_append] using hown'

/-- What is below a bound stays as it is behind an append onto a row from that bound on. -/
theorem below_grown {B : Nat} {w0 W w' : World} {e : TypeId} {v : Value} {l : List α} (hb : Below B w0 W) (hown : Own cs sz e W B v l) (hB : B ≤ W.heap.size) (hg : W.grownBy w' v.ownBlock) : Below B w0 w' :=
  hb.grown hg hB fun k hk => (hown.lt k hk).1
end

/-- The call hands back a slice that reads as l. -/
def RetRow {α : Type} (cs : α → List Value) (sz : Nat) (l : List α) (e : Ending) (w : World) : Prop := ∃ A c, e = .returned (.slice A l.length c) ∧ RowOf cs sz w w.heap.size A l

/-- Calls one behind the other, each of which keeps what was there. -/
theorem below_then {a b c : World} (h : Below a.heap.size a b) (k : Below b.heap.size b c) : Below a.heap.size a c := h.trans (k.mono h.size)
theorem below_draws {a b : World} (h : Below a.heap.size a b) (n : Nat) : Below a.heap.size a (b.drewN n) := ⟨h.os, h.tape, h.output, h.size, h.block⟩

theorem drop_cons {α : Type} {l : List α} {k : Nat} {x : α} (hx : l[k]? = some x) : l.drop k = x :: l.drop (k + 1) := by
  have hlt : k < l.length := by
    rcases Nat.lt_or_ge k l.length with h | h
    · exact h
    · rw [List.getElem?_eq_none h] at hx; cases hx
  rw [List.drop_eq_getElem_cons hlt]
  rw [List.getElem?_eq_getElem hlt] at hx
  cases hx
  rfl
theorem take_snoc {α : Type} {l : List α} {k : Nat} {x : α} (hx : l[k]? = some x) : l.take (k + 1) = l.take k ++ [x] := by
  rw [List.take_add_one, hx]; rfl
theorem get_some {α : Type} {l : List α} {k : Nat} (h : k < l.length) : ∃ x, l[k]? = some x := ⟨l[k], List.getElem?_eq_getElem h⟩

theorem ret_int {k : IntKind} {a b : Int} (h : a = b) : Ending.returned (.int k a) = .returned (.int k b) := by rw [h]
theorem ret_bool {a b : Bool} (h : a = b) : Ending.returned (.bool a) = .returned (.bool b) := by rw [h]
theorem ret_int_bool {k : IntKind} {a b : Int} {c d : Bool} (h : a = b) (h' : c = d) : Ending.returned (.tuple #[.int k a, .bool c]) = .returned (.tuple #[.int k b, .bool d]) := by rw [h, h']

end Go.Proofs.Ytjghbcligjiaaaa
