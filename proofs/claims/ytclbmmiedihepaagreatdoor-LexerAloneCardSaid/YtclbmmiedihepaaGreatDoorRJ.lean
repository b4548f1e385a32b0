/- The document's Next. The document's Next, whole. -/
import Derived.Test.YtclbmmiedihepaaGreatDoorRH
import Derived.Test.YtclbmmiedihepaaGreatDoorRI
namespace Go.Proofs.YtclbmmiedihepaaGreatDoor
section
open Go.RowKit
set_option linter.unusedVariables false
set_option linter.unusedSimpArgs false
/-- The token's own cells and the result's. -/
structure NS (w W : World) (k a b : Nat) : Prop where
 r : W.heap[w.heap.size]? = some (.cells #[.int .i64 0, .string ⟨#[]⟩, .int .i64 0, .int .i64 0] 31 (0, 0))
 t : W.heap[w.heap.size + 1]? = some (.cells #[.int .i64 (k : Int), .string ⟨#[]⟩, .int .i64 (a : Int), .int .i64 (b : Int)] 31 (0, 0))
 b : Below w.heap.size w W
theorem NS.start (w : World) (i : Nat) : NS w ((w.alloc (.cells #[.int .i64 0, .string ⟨#[]⟩, .int .i64 0, .int .i64 0] 31)).alloc (.cells #[.int .i64 0, .string ⟨#[]⟩, .int .i64 (i : Int), .int .i64 0] 31)) 0 i 0 :=
 ⟨blk_alloc (heap_alloc_new w _), by
  have := heap_alloc_new (w.alloc (.cells #[.int .i64 0, .string ⟨#[]⟩, .int .i64 0, .int .i64 0] 31)) (.cells #[.int .i64 0, .string ⟨#[]⟩, .int .i64 (i : Int), .int .i64 0] 31)
  rwa [World.size_alloc] at this, ((Below.refl _ _).alloc (Nat.le_refl _) _).alloc (by rw [World.size_alloc]; omega) _⟩
theorem NS.begin (w : World) (k i b : Nat) : NS w ((w.alloc (.cells #[.int .i64 0, .string ⟨#[]⟩, .int .i64 0, .int .i64 0] 31)).alloc (.cells #[.int .i64 (k : Int), .string ⟨#[]⟩, .int .i64 (i : Int), .int .i64 (b : Int)] 31)) k i b :=
 ⟨blk_alloc (heap_alloc_new w _), by
  have := heap_alloc_new (w.alloc (.cells #[.int .i64 0, .string ⟨#[]⟩, .int .i64 0, .int .i64 0] 31)) (.cells #[.int .i64 (k : Int), .string ⟨#[]⟩, .int .i64 (i : Int), .int .i64 (b : Int)] 31)
  rwa [World.size_alloc] at this, ((Below.refl _ _).alloc (Nat.le_refl _) _).alloc (by rw [World.size_alloc]; omega) _⟩
theorem NS.later {w W W' : World} {k a b : Nat} (h : NS w W k a b) (hb : Below W.heap.size W W') : NS w W' k a b :=
 ⟨blk_below h.r hb, blk_below h.t hb, h.b.trans (hb.mono h.b.size)⟩
theorem NS.kind {w W : World} {k a b : Nat} (h : NS w W k a b) (x : Nat) : NS w (W.setCell ⟨w.heap.size + 1, 0, none⟩ (.int .i64 (x : Int))) x a b :=
 ⟨(set_other (by omega)).trans h.r, set_heap h.t, h.b.setCell (p := ⟨w.heap.size + 1, 0, none⟩) (by show w.heap.size ≤ w.heap.size + 1; omega) _⟩
theorem NS.to {w W : World} {k a b : Nat} (h : NS w W k a b) (x : Nat) : NS w (W.setCell ⟨w.heap.size + 1, 3, none⟩ (.int .i64 (x : Int))) k a x :=
 ⟨(set_other (by omega)).trans h.r, set_heap h.t, h.b.setCell (p := ⟨w.heap.size + 1, 3, none⟩) (by show w.heap.size ≤ w.heap.size + 1; omega) _⟩
end

section
open Go.RowKit
set_option linter.unusedVariables false
set_option linter.unusedSimpArgs false
theorem take_quote {L : BL} {i : Nat} (h : atB (· == 34) L i = true) : takeV eFv (L.drop i) = (match quotV (L.drop i) with
  | some (v, n) => ((if 4096 < v.length then 3 else 0), 5, n)
  | none => (4, 0, 0)) := by
 have hd := is_head h
 rw [takeV_rest (by rw [hd]; exact speltZ.2 (by decide)), hd, num_zero.2 (digN_zero.2 (by decide)), if_neg (by omega)]
 cases hq : quotV (34 :: L.drop (i + 1)) with
 | some vn => rfl
 | none =>
  simp only
  rw [if_neg (by simp), if_neg]
  intro hm
  obtain ⟨_, e2, w, hw, e3⟩ := mark_blank hm (z := [])
  obtain ⟨c', r', rfl, d1, _⟩ := mark_heads w hw
  obtain ⟨q, hq⟩ : ∃ q, markN (34 :: L.drop (i + 1)) = q + 1 := ⟨markN (34 :: L.drop (i + 1)) - 1, by omega⟩
  rw [hq, List.take_succ_cons] at e3
  have := (List.cons.inj e3).1
  rw [← this] at d1; exact d1 rfl
end
end Go.Proofs.YtclbmmiedihepaaGreatDoor
