/- EditsKnown: the examples of the chapter hold, so the law answers true. No conditions. -/
import Derived.Test.YtfflfbnnohlipaaLawKnown
import Derived.Test.YtfflfbnnohlipaaRead
namespace Go.Proofs.Ytfflfbnnohlipaa
open Go.ChangeShapes Go.WideShapes Go.ChangeAt Go.RowKit
open Go.ChangeMaps (open_string)
set_option linter.unusedVariables false
set_option linter.unusedSimpArgs false

set_option maxRecDepth 100000 in
theorem editsKnown_lifted (os : Os) (started : os.Started) (H : Type) (enc : TypeId × Value → H) :
    ReturnsInHanded {} Try.checked os 10 .any (Rows.editsKnownSpec.pre6 enc Try.prog Try.f10 Rows.editsKnownRow.domain false) (Rows.editsKnownSpec.post enc Try.prog Try.f10 false true false false) := by
  refine returnsInHanded_of_change (C := Try.checked) Try.own started (by kernel_rfl) Try.func10
    (ChangeSpec.witness6 (enc := enc) (C := Try.checked) false ⟨#[], #[], []⟩ 8 (by kernel_rfl) (by kernel_rfl) (by kernel_rfl) (by kernel_rfl)) ?_
  intro W base args ds gs before hval hW _ _
  obtain ⟨p, q, hA, hV, _, _, _⟩ := id hW
  rw [show Try.f10.params.toList = [] from rfl] at hA
  obtain ⟨hargs, hds, _⟩ := trodAll_nil hA
  obtain rfl : args = #[] := by cases args; simp_all
  obtain ⟨rfl, _⟩ := trodVars_none hV
  subst hds
  exact law_post (bt := 4) Try.laidOut (by kernel_rfl) rfl Try.underlying4 rfl rfl hW (known1 W )

theorem editsKnown_holds : Rows.EditsKnownSaid :=
  OpenClaim.holds_of_wide 10 Try.f10 rfl rfl rfl rfl rfl rfl rfl ⟨rfl, rfl, rfl, rfl, rfl⟩ rfl rfl rfl rfl rfl (by kernel_rfl) Try.func10 (by kernel_rfl)
    (of_decide_eq_true (by kernel_rfl)) (by unfold Func.isWrapper; first | (rw [if_pos (by decide +kernel)]; kernel_rfl) | (rw [if_neg (by decide +kernel)]; exact ⟨rfl, rfl⟩))
    (fun os started H enc _ => editsKnown_lifted os started H enc)

end Go.Proofs.Ytfflfbnnohlipaa
