/- For any splices and any place, emendlaw07.EditsMoves returns true: where the place stands behind the splices (thirty at most), or whether it is none, is the document's. No condition. -/
import Derived.Test.YtfflfbnnohlipaaLawMoves
import Derived.Test.YtfflfbnnohlipaaLaw
namespace Go.Proofs.Ytfflfbnnohlipaa
open Go.ChangeShapes Go.WideShapes Go.ChangeAt Go.RowKit
set_option linter.unusedVariables false
set_option linter.unusedSimpArgs false

theorem Try.own : ownKnob Try.prog.godebug = none := by kernel_rfl
theorem Try.laidOut : laidOutB Try.prog = true := by kernel_rfl

instance : Inhabited Spl := ⟨⟨0, 0, ⟨#[]⟩⟩⟩

set_option maxRecDepth 100000 in
theorem spl_elem {H : Type} {enc : TypeId × Value → H} {W : World} {base : Nat} {spare : Nat → Bool} {held : Bool} : ∀ n cs y, DataW.trod enc Try.prog W base spare held n 33 cs = some y →
    ∃ x : Spl, cs = x.cells ∧ x.text.size ≤ maxLen := by
  intro n cs y h
  obtain ⟨xs, m, _, _, hlen, hxl, hf⟩ := DataW.trod_struct Try.underlying33 h
  have hC : Try.prog.cellsOf 33 = 3 := by kernel_rfl
  have c3 : Try.prog.cellsOf 3 = 1 := by kernel_rfl
  have c9 : Try.prog.cellsOf 9 = 1 := by kernel_rfl
  rw [hC] at hlen
  match cs, hlen with
  | [u0, u1, u2], _ =>
    match xs, hxl with
    | [y0, y1, y2], _ =>
      have g0 := hf 0 _ rfl
      have g1 := hf 1 _ rfl
      have g2 := hf 2 _ rfl
      change DataW.trod enc Try.prog W base spare held m 3 (([u0, u1, u2].drop 0).take (Try.prog.cellsOf 3)) = _ at g0
      change DataW.trod enc Try.prog W base spare held m 3 (([u0, u1, u2].drop 1).take (Try.prog.cellsOf 3)) = _ at g1
      change DataW.trod enc Try.prog W base spare held m 9 (([u0, u1, u2].drop 2).take (Try.prog.cellsOf 9)) = _ at g2
      rw [c3] at g0 g1
      rw [c9] at g2
      obtain ⟨a, ea, _, _⟩ := DataW.trod_int Try.underlying3 g0
      obtain ⟨b, eb, _, _⟩ := DataW.trod_int Try.underlying3 g1
      obtain ⟨s, es, _, hs⟩ := DataW.trod_string Try.underlying9 g2
      simp at ea eb es
      subst ea eb es
      exact ⟨⟨a, b, s⟩, rfl, hs⟩

theorem c33 : Try.prog.cellsOf 33 = 3 := by kernel_rfl

set_option maxRecDepth 100000 in
theorem moves_lifted (os : Os) (started : os.Started) (H : Type) (enc : TypeId × Value → H) :
    ReturnsInHanded {} Try.checked os 3 .any (Rows.editsMovesSpec.pre6 enc Try.prog Try.f3 Rows.editsMovesRow.domain false) (Rows.editsMovesSpec.post enc Try.prog Try.f3 false true false false) := by
  refine returnsInHanded_of_change (C := Try.checked) Try.own started (by kernel_rfl) Try.func3
    (ChangeSpec.witness6 (enc := enc) (C := Try.checked) false ⟨#[], #[.slice none 0 0, .int .i64 0], []⟩ 8 (by kernel_rfl) (by kernel_rfl) (by kernel_rfl) (by kernel_rfl)) ?_
  intro W base args ds gs before hval hW _ _
  obtain ⟨p, q, hA, hV, _, _, _⟩ := id hW
  rw [show Try.f3.params.toList = [22, 3] from rfl] at hA
  obtain ⟨v0, vs0, d0, ds0, p0, q0, hargs, hds, _, h0, r0⟩ := trodAll_cons hA
  obtain ⟨v1, vs1, d1, ds1, p1, q1, rfl, rfl, _, h1, r1⟩ := trodAll_cons r0
  obtain ⟨rfl, rfl, _⟩ := trodAll_nil r1
  obtain rfl : args = #[v0, v1] := by cases args; simp_all
  obtain ⟨rfl, _⟩ := trodVars_none hV
  subst hds
  obtain ⟨a0, len0, cap0, rfl⟩ := okWide_slice Try.underlying22 (hval 0 22 v0 rfl rfl)
  obtain ⟨n, rfl, _, _, _⟩ := open_int Try.underlying3 (hval 1 3 v1 rfl rfl) h1
  obtain ⟨l, rfl, hrow, hfit, hmax⟩ := read_slice (cells := Spl.cells) Try.underlying22 c33 (by omega) spl_elem rfl h0
  exact law_post (bt := 4) Try.laidOut (by kernel_rfl) rfl Try.underlying4 rfl rfl hW (lawMoves a0 cap0 l n W (by unfold maxLen at hmax; exact hmax) hrow (fun x hx => by have := hfit x hx; unfold maxLen at this; exact this))

theorem moves_holds : Rows.EditsMovesSaid :=
  OpenClaim.holds_of_wide 3 Try.f3 rfl rfl rfl rfl rfl rfl rfl ⟨rfl, rfl, rfl, rfl, rfl⟩ rfl rfl rfl rfl rfl (by kernel_rfl) Try.func3 (by kernel_rfl)
    (of_decide_eq_true (by kernel_rfl)) (by unfold Func.isWrapper; first | (rw [if_pos (by decide +kernel)]; kernel_rfl) | (rw [if_neg (by decide +kernel)]; exact ⟨rfl, rfl⟩))
    (fun os started H enc _ => moves_lifted os started H enc)

end Go.Proofs.Ytfflfbnnohlipaa
