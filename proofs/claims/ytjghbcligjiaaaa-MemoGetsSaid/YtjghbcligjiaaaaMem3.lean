/- append of a whole row onto a row of the call's own. Generic over the program. -/
import Derived.Test.YtjghbcligjiaaaaMem2
namespace Go.Proofs.Ytjghbcligjiaaaa
open Go.RowKit
set_option linter.unusedVariables false
variable {P : Program} {α : Type} {cs : α → List Value} {sz : Nat}

theorem RowOf.flat (hs : ∀ x, (cs x).length = sz) (hsz : 0 < sz) {w : World} {B : Nat} {A : Option Addr} {l : List α} (h : RowOf cs sz w B A l) {q : Nat} {u : Value} (hq : (l.flatMap cs)[q]? = some u) :
    ∃ b off, A = some ⟨b, off, none⟩ ∧ b < B ∧ w.cell? ⟨b, off + q, none⟩ = some u := by
  have hlen : q < l.length * sz := by
    rw [← flat_len hs l]
    rcases Nat.lt_or_ge q (l.flatMap cs).length with h' | h'
    · exact h'
    · rw [List.getElem?_eq_none h'] at hq; cases hq
  have hi : q / sz < l.length := by rw [Nat.div_lt_iff_lt_mul hsz]; exact hlen
  have hj : q % sz < sz := Nat.mod_lt _ hsz
  obtain ⟨x, hx⟩ := get_some hi
  obtain ⟨b, off, hA, hB, hc⟩ := h (Nat.lt_of_le_of_lt (Nat.zero_le _) hi)
  have hv : (cs x)[q % sz]? = some ((cs x)[q % sz]'(by rw [hs]; exact hj)) := List.getElem?_eq_getElem _
  have hf := flat_at hs l (q / sz) x hx (q % sz) _ hv
  have he : q / sz * sz + q % sz = q := by rw [Nat.mul_comm]; exact Nat.div_add_mod q sz
  rw [he, hq] at hf
  have := hc (q / sz) x hx (q % sz) _ hv
  rw [Nat.add_assoc, he, ← hf] at this
  exact ⟨b, off, hA, hB, this⟩

theorem flat_one (hone1 : ∀ y, ∀ u ∈ cs y, u.oneCell' = true) (l : List α) : ∀ u ∈ l.flatMap cs, u.oneCell' = true := by
  intro u hu
  obtain ⟨x, _, hx⟩ := List.mem_flatMap.1 hu
  exact hone1 x u hx

theorem wpList_append_row {ops : Array Oper} {rest : List Oper} {o : Oper} {a : Act} {Q : Exit → Act → World → Prop} (hgd : o.guard = none) (s x : Operand) (t : TypeId)
    (ho : o.op = .call { callee := .builtin .append, args := #[s, x], argTypes := #[t, t] })
    (e : TypeId) (i : TypeInfo) (z : Value) (bytes : Nat) (ht : P.underlying t = some (.slice e)) (hi : P.info? e = some i) (hz : i.zero = some z)
    (hsize : i.size = sz) (hby : i.bytes = bytes) (hzs : z.cells.size = sz) (hsz : 0 < sz) (hone : ∀ y, (cs y).length = sz) (hone1 : ∀ y, ∀ u ∈ cs y, u.oneCell' = true)
    (W : World) (B B1 : Nat) (v : Value) (l l1 : List α) (A1 : Addr) (m c1 : Nat) (hs : a.eval s = v) (hx : a.eval x = .slice (some A1) m c1) (hm : m = l1.length)
    (hown : Own cs sz e W B v l) (hr : RowOf cs sz W B1 (some A1) l1) (h63 : l.length + l1.length ≤ maxLen) (hbytes : (l.length + l1.length) * bytes ≤ 140737488355328) (hbase : B ≤ W.heap.size)
    (h : ∀ v' w', Own cs sz e w' B v' (l ++ l1) → W.grownBy w' v.ownBlock → (v'.ownBlock = v.ownBlock ∨ v'.ownBlock = some W.heap.size) → wpList P ops Q rest (a.put o.dst v') w') :
    wpList P ops Q (o :: rest) a W := by
  subst hm
  refine wpList_append_own_at (w := W) hgd s x t ho B e i z sz bytes ht hi hz hsize hby hzs hsz v l.length (l.flatMap cs) hs hown A1 l1.length c1 (l1.flatMap cs) hx (flat_len hone l1)
    (fun j u hj => ?_) (flat_one hone1 l1) h63 hbytes hbase fun v' w' hown' hg _ hat => h v' w' ?_ hg hat
  · obtain ⟨b, off, hA, _, hc⟩ := hr.flat hone hsz hj
    injection hA with hA
    subst hA
    rw [Addr.add_lit]
    exact hc
  · unfold Own
    rw [List.length_append, List.flatMap_append]
    exact hown'
end Go.Proofs.Ytjghbcligjiaaaa
