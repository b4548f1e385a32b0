/- For any text, any splices and any number, emendlaw07.EditsApplies returns true: whether the splices fit, what they make, what leads back, and their order, are the document's; they stay. No condition. -/
import Derived.Test.YtfflfbnnohlipaaLawApplies
import Derived.Test.YtfflfbnnohlipaaRead
namespace Go.Proofs.Ytfflfbnnohlipaa
open Go.ChangeShapes Go.WideShapes Go.ChangeAt Go.RowKit
open Go.ChangeMaps (open_string)
set_option linter.unusedVariables false
set_option linter.unusedSimpArgs false

set_option maxRecDepth 100000 in
theorem editsApplies_lifted (os : Os) (started : os.Started) (H : Type) (enc : TypeId × Value → H) :
    ReturnsInHanded {} Try.checked os 9 .any (Rows.editsAppliesSpec.pre6 enc Try.prog Try.f9 Rows.editsAppliesRow.domain false) (Rows.editsAppliesSpec.post enc Try.prog Try.f9 false true false false) := by
  refine returnsInHanded_of_change (C := Try.checked) Try.own started (by kernel_rfl) Try.func9
    (ChangeSpec.witness6 (enc := enc) (C := Try.checked) false ⟨#[], #[.string ⟨#[]⟩, .slice none 0 0, .int .i64 0], []⟩ 8 (by kernel_rfl) (by kernel_rfl) (by kernel_rfl) (by kernel_rfl)) ?_
  intro W base args ds gs before hval hW _ _
  obtain ⟨p, q, hA, hV, _, _, _⟩ := id hW
  rw [show Try.f9.params.toList = [9, 22, 3] from rfl] at hA
  obtain ⟨v0, vs0, d0, ds0, p0, q0, hargs, hds, _, h0, r0⟩ := trodAll_cons hA
  obtain ⟨v1, vs1, d1, ds1, p1, q1, rfl, rfl, _, h1, r1⟩ := trodAll_cons r0
  obtain ⟨v2, vs2, d2, ds2, p2, q2, rfl, rfl, _, h2, r2⟩ := trodAll_cons r1
  obtain ⟨rfl, rfl, _⟩ := trodAll_nil r2
  obtain rfl : args = #[v0, v1, v2] := by cases args; simp_all
  obtain ⟨rfl, _⟩ := trodVars_none hV
  subst hds
  obtain ⟨s0, rfl, _, _, hs0⟩ := open_string Try.underlying9 (hval 0 9 v0 rfl rfl) h0
  obtain ⟨a1, len1, cap1, rfl⟩ := okWide_slice Try.underlying22 (hval 1 22 v1 rfl rfl)
  obtain ⟨l1, rfl, hrow1, hfit1, hmax1⟩ := read_slice (cells := Spl.cells) Try.underlying22 c33 (by omega) spl_elem rfl h1
  obtain ⟨n2, rfl, _, _, wn2⟩ := open_int Try.underlying3 (hval 2 3 v2 rfl rfl) h2
  exact law_post (bt := 4) Try.laidOut (by kernel_rfl) rfl Try.underlying4 rfl rfl hW (rowApplies W s0 (below_max hs0) a1 cap1 l1 (below_max hmax1) hrow1 (fun x hx => below_max (hfit1 x hx)) n2 wn2)

theorem editsApplies_holds : Rows.EditsAppliesSaid :=
  OpenClaim.holds_of_wide 9 Try.f9 rfl rfl rfl rfl rfl rfl rfl ⟨rfl, rfl, rfl, rfl, rfl⟩ rfl rfl rfl rfl rfl (by kernel_rfl) Try.func9 (by kernel_rfl)
    (of_decide_eq_true (by kernel_rfl)) (by unfold Func.isWrapper; first | (rw [if_pos (by decide +kernel)]; kernel_rfl) | (rw [if_neg (by decide +kernel)]; exact ⟨rfl, rfl⟩))
    (fun os started H enc _ => editsApplies_lifted os started H enc)

end Go.Proofs.Ytfflfbnnohlipaa
