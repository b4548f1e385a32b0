/- A part of what the claim leans on. -/
import Derived.RangeFuncOwn
import Derived.RangeFuncCalls
import Derived.RangeFuncLeaves
import Derived.Test.YtacdfjlncfidgaaGreatDoorQB
namespace Go.Proofs.YtacdfjlncfidgaaGreatDoor
open Go.RowKit
def Kept (M : Nat → Prop) (W W' : World) : Prop := W.heap.size ≤ W'.heap.size ∧ ∀ b, b < W.heap.size → ¬ M b → W'.heap[b]? = W.heap[b]?
theorem Kept.trans {M : Nat → Prop} {A B C : World} (h : Kept M A B) (k : Kept M B C) : Kept M A C :=
 ⟨Nat.le_trans h.1 k.1, fun b hb hm => (k.2 b (Nat.lt_of_lt_of_le hb h.1) hm).trans (h.2 b hb hm)⟩
theorem Kept.mono {M M' : Nat → Prop} {A B : World} (h : Kept M A B) (hM : ∀ b, M b → M' b) : Kept M' A B := ⟨h.1, fun b hb hm => h.2 b hb fun x => hm (hM b x)⟩
theorem Kept.refl (M : Nat → Prop) (A : World) : Kept M A A := ⟨Nat.le_refl _, fun _ _ _ => rfl⟩
theorem Kept.setCell (M : Nat → Prop) (A : World) (p : Addr) (v : Value) (h : M p.block) : Kept M A (A.setCell p v) :=
 ⟨by simp [World.setCell], fun b _ hm => Below.heap_setCell A p v b fun e => hm (e ▸ h)⟩
theorem Kept.drew (M : Nat → Prop) (A : World) : Kept M A A.drew := ⟨Nat.le_refl _, fun _ _ _ => rfl⟩
theorem Kept.cell {M : Nat → Prop} {A B : World} (h : Kept M A B) {p : Addr} (hp : p.block < A.heap.size) (hm : ¬ M p.block) : B.cell? p = A.cell? p := World.cell?_of_block (h.2 _ hp hm)
variable {P : Program}
end Go.Proofs.YtacdfjlncfidgaaGreatDoor
