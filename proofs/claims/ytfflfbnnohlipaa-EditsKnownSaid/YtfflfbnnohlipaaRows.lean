/-
  No cell of these rows narrows 'for every input' (looked for: loops, veiled, ifaces, maps, wideKeys, modest, calm, conditions, laid).
  DERIVED. THE GIVEN ROWS OF THIS SEAT. 8 by the template 'for every input the law returns true; each argument reads behind the call as it read before'; 0 by the template 'total and deterministic' (their statements: YtfflfbnnohlipaaTotals.lean).
  GIVEN WITH THE SEED: the statements are not yours to turn. If you find one false, say at which input.
  Laid BY PROGRAM, IN A SANDBOX (cutbox-rows.mjs): the forced cells as the released guide's own fill.sh prints them over the translation 6dbedf3b75aceb7d… (all of the seat's roots in one cut). By AI agents, Wed Nov 11 2026. No macro, syntax, notation, axiom, sorry.
-/
import Derived.Test.YtfflfbnnohlipaaChecked
import GoSem.Claim
import GoSem.ClaimJoined
import GoSem.ClaimMapViews
import Derived.JoinedTies
import Derived.KernelRfl
namespace Go.Proofs.Ytfflfbnnohlipaa
/- THE CELL 'sum', in the pinned program and in every row, IS THE sha256 OF THE DUMP (.gsa) THAT YtfflfbnnohlipaaProg.lean LOADS. Nothing in Lean hashes anything: it is a label: what it is worth is what the hold of that sum in a sandbox is worth. -/
noncomputable def Try.pinned : Pinned := { name := "ytfflfbnnohlipaa", sum := "6dbedf3b75aceb7d0c8bc00688a663612eb2213524980798e82dd4289ad60e12", checked := Try.checked }
namespace Rows
def none {H : Type} : Left H := { results := [], args := [] }

/-- 'emendlaw07.EditsMoves': WHATEVER THE INPUT: true; the input reads as it did. -/
def editsMovesSpec : ChangeSpec := { name := "editsMoves", fn := fun _ => fun
  | [d1, d2] => { results := [.lit (.bool true)], args := [d1, d2] }
  | _ => none }
def editsMovesRow : OpenClaim := { program := "ytfflfbnnohlipaa", sum := "6dbedf3b75aceb7d0c8bc00688a663612eb2213524980798e82dd4289ad60e12", func := "emend/emendlaw07.EditsMoves", spec := "editsMoves", unfollowed := true, recurses := true, apart := false }
def EditsMovesSaid : Prop := editsMovesRow.holds Try.pinned (OpenSpec.ofChange editsMovesSpec)

/-- ITS FALSE NEIGHBOUR: 'it returns false'. Refute it at one input. -/
def editsMovesWrong : ChangeSpec := { name := "editsMoves", fn := fun _ => fun
  | [d1, d2] => { results := [.lit (.bool false)], args := [d1, d2] }
  | _ => none }
def EditsMovesWrongFalsely : Prop := editsMovesRow.holds Try.pinned (OpenSpec.ofChange editsMovesWrong)

/-- 'emendlaw07.EditsKeeps': WHATEVER THE INPUT: true; the input reads as it did. -/
def editsKeepsSpec : ChangeSpec := { name := "editsKeeps", fn := fun _ => fun
  | [d1, d2] => { results := [.lit (.bool true)], args := [d1, d2] }
  | _ => none }
def editsKeepsRow : OpenClaim := { program := "ytfflfbnnohlipaa", sum := "6dbedf3b75aceb7d0c8bc00688a663612eb2213524980798e82dd4289ad60e12", func := "emend/emendlaw07.EditsKeeps", spec := "editsKeeps", unfollowed := true, recurses := true, apart := false }
def EditsKeepsSaid : Prop := editsKeepsRow.holds Try.pinned (OpenSpec.ofChange editsKeepsSpec)

/-- ITS FALSE NEIGHBOUR: 'it returns false'. Refute it at one input. -/
def editsKeepsWrong : ChangeSpec := { name := "editsKeeps", fn := fun _ => fun
  | [d1, d2] => { results := [.lit (.bool false)], args := [d1, d2] }
  | _ => none }
def EditsKeepsWrongFalsely : Prop := editsKeepsRow.holds Try.pinned (OpenSpec.ofChange editsKeepsWrong)

/-- 'emendlaw07.EditsBack': WHATEVER THE INPUT: true; the input reads as it did. -/
def editsBackSpec : ChangeSpec := { name := "editsBack", fn := fun _ => fun
  | [d1, d2] => { results := [.lit (.bool true)], args := [d1, d2] }
  | _ => none }
def editsBackRow : OpenClaim := { program := "ytfflfbnnohlipaa", sum := "6dbedf3b75aceb7d0c8bc00688a663612eb2213524980798e82dd4289ad60e12", func := "emend/emendlaw07.EditsBack", spec := "editsBack", unfollowed := true, recurses := true, apart := false }
def EditsBackSaid : Prop := editsBackRow.holds Try.pinned (OpenSpec.ofChange editsBackSpec)

/-- ITS FALSE NEIGHBOUR: 'it returns false'. Refute it at one input. -/
def editsBackWrong : ChangeSpec := { name := "editsBack", fn := fun _ => fun
  | [d1, d2] => { results := [.lit (.bool false)], args := [d1, d2] }
  | _ => none }
def EditsBackWrongFalsely : Prop := editsBackRow.holds Try.pinned (OpenSpec.ofChange editsBackWrong)

/-- 'emendlaw07.EditsWhole': WHATEVER THE INPUT: true; the input reads as it did. -/
def editsWholeSpec : ChangeSpec := { name := "editsWhole", fn := fun _ => fun
  | [d] => { results := [.lit (.bool true)], args := [d] }
  | _ => none }
def editsWholeRow : OpenClaim := { program := "ytfflfbnnohlipaa", sum := "6dbedf3b75aceb7d0c8bc00688a663612eb2213524980798e82dd4289ad60e12", func := "emend/emendlaw07.EditsWhole", spec := "editsWhole", unfollowed := true, recurses := true, apart := false }
def EditsWholeSaid : Prop := editsWholeRow.holds Try.pinned (OpenSpec.ofChange editsWholeSpec)

/-- ITS FALSE NEIGHBOUR: 'it returns false'. Refute it at one input. -/
def editsWholeWrong : ChangeSpec := { name := "editsWhole", fn := fun _ => fun
  | [d] => { results := [.lit (.bool false)], args := [d] }
  | _ => none }
def EditsWholeWrongFalsely : Prop := editsWholeRow.holds Try.pinned (OpenSpec.ofChange editsWholeWrong)

/-- 'emendlaw07.EditsFlat': WHATEVER THE INPUT: true; the input reads as it did. -/
def editsFlatSpec : ChangeSpec := { name := "editsFlat", fn := fun _ => fun
  | [d1, d2] => { results := [.lit (.bool true)], args := [d1, d2] }
  | _ => none }
def editsFlatRow : OpenClaim := { program := "ytfflfbnnohlipaa", sum := "6dbedf3b75aceb7d0c8bc00688a663612eb2213524980798e82dd4289ad60e12", func := "emend/emendlaw07.EditsFlat", spec := "editsFlat", inPlace := ["internal/abi.NoEscape"], unfollowed := true, recurses := true, apart := false }
def EditsFlatSaid : Prop := editsFlatRow.holds Try.pinned (OpenSpec.ofChange editsFlatSpec)

/-- ITS FALSE NEIGHBOUR: 'it returns false'. Refute it at one input. -/
def editsFlatWrong : ChangeSpec := { name := "editsFlat", fn := fun _ => fun
  | [d1, d2] => { results := [.lit (.bool false)], args := [d1, d2] }
  | _ => none }
def EditsFlatWrongFalsely : Prop := editsFlatRow.holds Try.pinned (OpenSpec.ofChange editsFlatWrong)

/-- 'emendlaw07.EditsLong': WHATEVER THE INPUT: true; the input reads as it did. -/
def editsLongSpec : ChangeSpec := { name := "editsLong", fn := fun _ => fun
  | [d1, d2] => { results := [.lit (.bool true)], args := [d1, d2] }
  | _ => none }
def editsLongRow : OpenClaim := { program := "ytfflfbnnohlipaa", sum := "6dbedf3b75aceb7d0c8bc00688a663612eb2213524980798e82dd4289ad60e12", func := "emend/emendlaw07.EditsLong", spec := "editsLong", inPlace := ["internal/abi.NoEscape"], unfollowed := true, recurses := true, apart := false }
def EditsLongSaid : Prop := editsLongRow.holds Try.pinned (OpenSpec.ofChange editsLongSpec)

/-- ITS FALSE NEIGHBOUR: 'it returns false'. Refute it at one input. -/
def editsLongWrong : ChangeSpec := { name := "editsLong", fn := fun _ => fun
  | [d1, d2] => { results := [.lit (.bool false)], args := [d1, d2] }
  | _ => none }
def EditsLongWrongFalsely : Prop := editsLongRow.holds Try.pinned (OpenSpec.ofChange editsLongWrong)

/-- 'emendlaw07.EditsApplies': WHATEVER THE INPUT: true; the input reads as it did. -/
def editsAppliesSpec : ChangeSpec := { name := "editsApplies", fn := fun _ => fun
  | [d1, d2, d3] => { results := [.lit (.bool true)], args := [d1, d2, d3] }
  | _ => none }
def editsAppliesRow : OpenClaim := { program := "ytfflfbnnohlipaa", sum := "6dbedf3b75aceb7d0c8bc00688a663612eb2213524980798e82dd4289ad60e12", func := "emend/emendlaw07.EditsApplies", spec := "editsApplies", unfollowed := true, recurses := true, apart := false }
def EditsAppliesSaid : Prop := editsAppliesRow.holds Try.pinned (OpenSpec.ofChange editsAppliesSpec)

/-- ITS FALSE NEIGHBOUR: 'it returns false'. Refute it at one input. -/
def editsAppliesWrong : ChangeSpec := { name := "editsApplies", fn := fun _ => fun
  | [d1, d2, d3] => { results := [.lit (.bool false)], args := [d1, d2, d3] }
  | _ => none }
def EditsAppliesWrongFalsely : Prop := editsAppliesRow.holds Try.pinned (OpenSpec.ofChange editsAppliesWrong)

/-- 'emendlaw07.EditsKnown': WHATEVER THE INPUT: true; the input reads as it did. -/
def editsKnownSpec : ChangeSpec := { name := "editsKnown", fn := fun _ => fun
  | [] => { results := [.lit (.bool true)], args := [] }
  | _ => none }
def editsKnownRow : OpenClaim := { program := "ytfflfbnnohlipaa", sum := "6dbedf3b75aceb7d0c8bc00688a663612eb2213524980798e82dd4289ad60e12", func := "emend/emendlaw07.EditsKnown", spec := "editsKnown", inPlace := ["internal/abi.NoEscape"], unfollowed := true, recurses := true, apart := false }
def EditsKnownSaid : Prop := editsKnownRow.holds Try.pinned (OpenSpec.ofChange editsKnownSpec)

/-- ITS FALSE NEIGHBOUR: 'it returns false'. Refute it at one input. -/
def editsKnownWrong : ChangeSpec := { name := "editsKnown", fn := fun _ => fun
  | [] => { results := [.lit (.bool false)], args := [] }
  | _ => none }
def EditsKnownWrongFalsely : Prop := editsKnownRow.holds Try.pinned (OpenSpec.ofChange editsKnownWrong)

/- THE SECOND FORM. 'bulk': how many values and letters a reading holds, each counted each time it is reached (what is shared counts as often as it is met; a slice's spare places count too). A statement '..UptoSaid' is the law's where the arguments, and the package variables that the reading takes, are together of bulk at most 1048576: NARROWER than '..Said'. Prove '..Said' where nothing that the law and all that it calls make is longer than what came in: it says more and counts as full. Else prove '..UptoSaid'. A law counts once. -/
mutual
def uptoBulk {H : Type} : DataW H → Nat
  | .lit (.string bytes) => bytes.length + 1
  | .lit _ => 1
  | .nil => 1
  | .ptr d => uptoBulk d + 1
  | .slice elems spare => uptoBulkAll elems + uptoBulkAll spare + 1
  | .agg parts => uptoBulkAll parts + 1
  | .iface _ d => uptoBulk d + 1
  | .map entries => uptoBulkEntries entries + 1
  | .held _ => 1
def uptoBulkAll {H : Type} : List (DataW H) → Nat
  | [] => 0
  | d :: r => uptoBulk d + uptoBulkAll r
def uptoBulkEntries {H : Type} : List (Lit × DataW H) → Nat
  | [] => 0
  | x :: r => uptoBulkEntry x + uptoBulkEntries r
def uptoBulkEntry {H : Type} : Lit × DataW H → Nat
  | (.string bytes, d) => bytes.length + uptoBulk d + 1
  | (_, d) => uptoBulk d + 1
 end
def uptoSmall : (H : Type) → List (DataW H) → Bool := fun _ ds => decide (uptoBulkAll ds ≤ 1048576)
def OpenSpec.upto (s : _root_.Go.ChangeSpec) : _root_.Go.OpenSpec := { _root_.Go.OpenSpec.ofChange s with cond := some uptoSmall }

/-- 'emendlaw07.EditsMoves', WHERE WHAT IT READS IS OF BULK AT MOST 1048576: true; the input reads as it did. -/
def editsMovesUptoRow : OpenClaim := { program := "ytfflfbnnohlipaa", sum := "6dbedf3b75aceb7d0c8bc00688a663612eb2213524980798e82dd4289ad60e12", func := "emend/emendlaw07.EditsMoves", spec := "editsMoves", unfollowed := true, recurses := true, apart := false, narrowed := true }
def EditsMovesUptoSaid : Prop := editsMovesUptoRow.holds Try.pinned (OpenSpec.upto editsMovesSpec)

/-- 'emendlaw07.EditsKeeps', WHERE WHAT IT READS IS OF BULK AT MOST 1048576: true; the input reads as it did. -/
def editsKeepsUptoRow : OpenClaim := { program := "ytfflfbnnohlipaa", sum := "6dbedf3b75aceb7d0c8bc00688a663612eb2213524980798e82dd4289ad60e12", func := "emend/emendlaw07.EditsKeeps", spec := "editsKeeps", unfollowed := true, recurses := true, apart := false, narrowed := true }
def EditsKeepsUptoSaid : Prop := editsKeepsUptoRow.holds Try.pinned (OpenSpec.upto editsKeepsSpec)

/-- 'emendlaw07.EditsBack', WHERE WHAT IT READS IS OF BULK AT MOST 1048576: true; the input reads as it did. -/
def editsBackUptoRow : OpenClaim := { program := "ytfflfbnnohlipaa", sum := "6dbedf3b75aceb7d0c8bc00688a663612eb2213524980798e82dd4289ad60e12", func := "emend/emendlaw07.EditsBack", spec := "editsBack", unfollowed := true, recurses := true, apart := false, narrowed := true }
def EditsBackUptoSaid : Prop := editsBackUptoRow.holds Try.pinned (OpenSpec.upto editsBackSpec)

/-- 'emendlaw07.EditsWhole', WHERE WHAT IT READS IS OF BULK AT MOST 1048576: true; the input reads as it did. -/
def editsWholeUptoRow : OpenClaim := { program := "ytfflfbnnohlipaa", sum := "6dbedf3b75aceb7d0c8bc00688a663612eb2213524980798e82dd4289ad60e12", func := "emend/emendlaw07.EditsWhole", spec := "editsWhole", unfollowed := true, recurses := true, apart := false, narrowed := true }
def EditsWholeUptoSaid : Prop := editsWholeUptoRow.holds Try.pinned (OpenSpec.upto editsWholeSpec)

/-- 'emendlaw07.EditsFlat', WHERE WHAT IT READS IS OF BULK AT MOST 1048576: true; the input reads as it did. -/
def editsFlatUptoRow : OpenClaim := { program := "ytfflfbnnohlipaa", sum := "6dbedf3b75aceb7d0c8bc00688a663612eb2213524980798e82dd4289ad60e12", func := "emend/emendlaw07.EditsFlat", spec := "editsFlat", inPlace := ["internal/abi.NoEscape"], unfollowed := true, recurses := true, apart := false, narrowed := true }
def EditsFlatUptoSaid : Prop := editsFlatUptoRow.holds Try.pinned (OpenSpec.upto editsFlatSpec)

/-- 'emendlaw07.EditsLong', WHERE WHAT IT READS IS OF BULK AT MOST 1048576: true; the input reads as it did. -/
def editsLongUptoRow : OpenClaim := { program := "ytfflfbnnohlipaa", sum := "6dbedf3b75aceb7d0c8bc00688a663612eb2213524980798e82dd4289ad60e12", func := "emend/emendlaw07.EditsLong", spec := "editsLong", inPlace := ["internal/abi.NoEscape"], unfollowed := true, recurses := true, apart := false, narrowed := true }
def EditsLongUptoSaid : Prop := editsLongUptoRow.holds Try.pinned (OpenSpec.upto editsLongSpec)

/-- 'emendlaw07.EditsApplies', WHERE WHAT IT READS IS OF BULK AT MOST 1048576: true; the input reads as it did. -/
def editsAppliesUptoRow : OpenClaim := { program := "ytfflfbnnohlipaa", sum := "6dbedf3b75aceb7d0c8bc00688a663612eb2213524980798e82dd4289ad60e12", func := "emend/emendlaw07.EditsApplies", spec := "editsApplies", unfollowed := true, recurses := true, apart := false, narrowed := true }
def EditsAppliesUptoSaid : Prop := editsAppliesUptoRow.holds Try.pinned (OpenSpec.upto editsAppliesSpec)

/-- 'emendlaw07.EditsKnown', WHERE WHAT IT READS IS OF BULK AT MOST 1048576: true; the input reads as it did. -/
def editsKnownUptoRow : OpenClaim := { program := "ytfflfbnnohlipaa", sum := "6dbedf3b75aceb7d0c8bc00688a663612eb2213524980798e82dd4289ad60e12", func := "emend/emendlaw07.EditsKnown", spec := "editsKnown", inPlace := ["internal/abi.NoEscape"], unfollowed := true, recurses := true, apart := false, narrowed := true }
def EditsKnownUptoSaid : Prop := editsKnownUptoRow.holds Try.pinned (OpenSpec.upto editsKnownSpec)

end Rows
end Go.Proofs.Ytfflfbnnohlipaa
