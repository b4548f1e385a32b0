/- A part of what the claim leans on. -/
import Derived.Test.YtacdfjlncfidgaaGreatDoorRQ
import Derived.Test.YtacdfjlncfidgaaGreatDoorTA
import Derived.Test.YtacdfjlncfidgaaGreatDoorCards
import Derived.Test.YtacdfjlncfidgaaGreatDoorTie
import Derived.ProofKit
import Derived.LaidOnce
import Derived.SevenTiedAt
namespace Go.Proofs.YtacdfjlncfidgaaGreatDoor
open Go.RowKit
set_option linter.unusedVariables false
set_option linter.unusedSimpArgs false
set_option maxRecDepth 100000
set_option maxHeartbeats 6400000
open Go.ChangeShapes Go.WideShapes Go.ChangeAt Go.RowKit
theorem astMakes_own : ownKnob Tryz.prog.godebug = none := by kernel_rfl
theorem astMakes_laidOut : laidOutB Tryz.prog = true := by kernel_rfl
theorem astMakes_facts : joinedFacts Tryz.prog 7 Tryz.f7 Rows.astMakesSpec Rows.astMakesRow = true := by
 simp only [joinedFacts, Bool.and_eq_true]
 repeat' apply And.intro
 all_goals (as_aux_lemma => kernel_rfl)
end Go.Proofs.YtacdfjlncfidgaaGreatDoor
