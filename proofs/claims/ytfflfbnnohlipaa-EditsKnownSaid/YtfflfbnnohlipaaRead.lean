/- What the laws' arguments read as. -/
import Derived.Test.YtfflfbnnohlipaaBase
import Derived.Test.YtfflfbnnohlipaaLaw
namespace Go.Proofs.Ytfflfbnnohlipaa
open Go.ChangeShapes Go.WideShapes Go.ChangeAt Go.RowKit
set_option linter.unusedVariables false
set_option linter.unusedSimpArgs false

theorem Try.own : ownKnob Try.prog.godebug = none := by kernel_rfl
theorem Try.laidOut : laidOutB Try.prog = true := by kernel_rfl

instance : Inhabited Spl := ⟨⟨0, 0, ⟨#[]⟩⟩⟩

set_option maxRecDepth 100000 in
theorem spl_elem {H : Type} {enc : TypeId × Value → H} {W : World} {base : Nat} {spare : Nat → Bool} {held : Bool} : ∀ n cs y, DataW.trod enc Try.prog W base spare held n 33 cs = some y →
    ∃ x : Spl, cs = x.cells ∧ x.text.size ≤ maxLen := by
  intro n cs y h
  obtain ⟨xs, m, _, _, hlen, hxl, hf⟩ := DataW.trod_struct Try.underlying33 h
  have hC : Try.prog.cellsOf 33 = 3 := by kernel_rfl
  have c3 : Try.prog.cellsOf 3 = 1 := by kernel_rfl
  have c9 : Try.prog.cellsOf 9 = 1 := by kernel_rfl
  rw [hC] at hlen
  match cs, hlen with
  | [u0, u1, u2], _ =>
    match xs, hxl with
    | [y0, y1, y2], _ =>
      have g0 := hf 0 _ rfl
      have g1 := hf 1 _ rfl
      have g2 := hf 2 _ rfl
      change DataW.trod enc Try.prog W base spare held m 3 (([u0, u1, u2].drop 0).take (Try.prog.cellsOf 3)) = _ at g0
      change DataW.trod enc Try.prog W base spare held m 3 (([u0, u1, u2].drop 1).take (Try.prog.cellsOf 3)) = _ at g1
      change DataW.trod enc Try.prog W base spare held m 9 (([u0, u1, u2].drop 2).take (Try.prog.cellsOf 9)) = _ at g2
      rw [c3] at g0 g1
      rw [c9] at g2
      obtain ⟨a, ea, _, _⟩ := DataW.trod_int Try.underlying3 g0
      obtain ⟨b, eb, _, _⟩ := DataW.trod_int Try.underlying3 g1
      obtain ⟨s, es, _, hs⟩ := DataW.trod_string Try.underlying9 g2
      simp at ea eb es
      subst ea eb es
      exact ⟨⟨a, b, s⟩, rfl, hs⟩

theorem c33 : Try.prog.cellsOf 33 = 3 := by kernel_rfl
theorem below_max {n : Nat} (h : n ≤ maxLen) : n ≤ 9223372036854775807 := by unfold maxLen at h; exact h

end Go.Proofs.Ytfflfbnnohlipaa
