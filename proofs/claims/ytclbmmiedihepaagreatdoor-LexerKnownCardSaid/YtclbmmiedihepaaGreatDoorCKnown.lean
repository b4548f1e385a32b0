/- emend/emendlaw09.LexerKnown returns true on every input, and its card. -/
import Derived.Test.YtclbmmiedihepaaGreatDoorRQ
import Derived.Test.YtclbmmiedihepaaGreatDoorKS
import Derived.Test.YtclbmmiedihepaaGreatDoorCards
import Derived.Test.YtclbmmiedihepaaGreatDoorTie
import Derived.ProofKit
import Derived.LaidOnce
import Derived.SevenTiedAt
namespace Go.Proofs.YtclbmmiedihepaaGreatDoor
open Go.ChangeShapes Go.WideShapes Go.ChangeAt Go.RowKit
set_option linter.unusedVariables false
set_option linter.unusedSimpArgs false
theorem lexerKnown_own : ownKnob Tryz.prog.godebug = none := by kernel_rfl
theorem lexerKnown_laidOut : laidOutB Tryz.prog = true := by kernel_rfl

set_option maxRecDepth 100000 in
theorem lexerKnown_lifted (os : Os) (started : os.Started) (H : Type) (enc : TypeId × Value → H) :
  ReturnsInHanded {} Tryz.checked os 8 .any (fun w args => (Rows.lexerKnownSpec.pre enc Tryz.prog Tryz.f8 [] false w args ∧ laidMetH Tryz.prog Rows.lexerKnownRow.laid w) ∧ sizedMet enc Tryz.prog Tryz.f8 (OpenSpec.ofChange Rows.lexerKnownSpec) false w args)
   (Rows.lexerKnownSpec.post enc Tryz.prog Tryz.f8 false true false false) := by
 refine wrap_and_shaped (C := Tryz.checked) (X := fun w _ => laidMetH Tryz.prog Rows.lexerKnownRow.laid w) (fun _ _ _ hh h => h.of_heap hh) lexerKnown_own started (by kernel_rfl) Tryz.func8
  (ChangeSpec.witness_shaped (enc := enc) (C := Tryz.checked) (os := os) (X := fun w _ => laidMetH Tryz.prog Rows.lexerKnownRow.laid w) false (World.laidAll Tryz.prog os Rows.lexerKnownRow.laid) #[] 8 (World.laidAll_os _ _ _)
   (World.shaped_of_ZipB (by kernel_rfl) (by kernel_rfl)) (by kernel_rfl) (by kernel_rfl) (by kernel_rfl)
   (by rw [MakeChecks.laidMetH_plain _ _ _ (by kernel_rfl)]; exact laidMet_laidAll _ (by kernel_rfl) (by kernel_rfl))) ?_
 intro W base args ds gs before hval0 hW _ hL hsh
 have hval : ∀ (j : Nat) t v, Tryz.f8.params[j]? = some t → args[j]? = some v → Value.okWide Tryz.prog W .any base t v := hval0
 have hW' := hW
 obtain ⟨p, q, hA0, hV, rfl, _, _⟩ := hW
 have hA : DataW.TrodAll enc Tryz.prog W 0 (fun _ => true) true Tryz.f8.params.toList args.toList ds p := hA0
 obtain ⟨rfl, rfl⟩ := trodVars_none hV
 rw [Tryz.params8] at hA hval
 obtain ⟨e1, rfl, rfl⟩ := trodAll_nil hA
 obtain rfl : args = #[] := by rw [← Array.toList_inj]; exact e1
 simp only [List.append_nil] at hW'
 rw [MakeChecks.laidMetH_plain _ _ _ (by kernel_rfl)] at hL
 have hG : LexG W := lexg_of hsh (by exact hL)
 exact law_post lexerKnown_laidOut (by kernel_rfl) (show Tryz.f8.resultTypes = #[4] by kernel_rfl) Tryz.underlying4 rfl rfl hW' (lawKnown W hG)

theorem lexerKnown_holds : Rows.LexerKnownSaid :=
 OpenClaim.holds_of_wide 8 Tryz.f8 rfl rfl rfl rfl rfl rfl rfl ⟨rfl, rfl, rfl, rfl, rfl⟩ rfl rfl rfl rfl rfl (by kernel_rfl) Tryz.func8 (by kernel_rfl)
  (of_decide_eq_true (by kernel_rfl)) (by unfold Func.isWrapper; first | (rw [if_pos (by decide +kernel)]; kernel_rfl) | (rw [if_neg (by decide +kernel)]; exact ⟨rfl, rfl⟩))
  (fun os started H enc _ => lexerKnown_lifted os started H enc)

theorem lexerKnown_card_holds : Rows.LexerKnownCardSaid :=
 Claim7.holds_tied_plain_at .later [] [.data, .data, .widerDeep, .widerDeep, .data, .data, .data, .data, .data, .data, .sentinel, .sentinel, .listed, .data, .pinned, .pinned, .pinned] true (true, "bd8de07f0b06c923e1c0a30d3e2b6811b45c1283de1883deb2c61db6d392d66d") true
  lexerKnown_holds (fun _ h => by cases h) (by kernel_rfl) (fun _ h => by cases h) lexerKnown_row_tie rfl ⟨rfl, rfl⟩ (by kernel_rfl) rfl
  (fun f fn hf hfn => by
   obtain rfl : f = 8 := Option.some.inj ((show Tryz.prog.funcNamed "emend/emendlaw09.LexerKnown" = some 8 by kernel_rfl).symm.trans hf) |>.symm
   obtain rfl : fn = Tryz.f8 := (Option.some.inj (Tryz.func8.symm.trans hfn)).symm
   exact ⟨by kernel_rfl, fun j t ht => by
    rw [Tryz.params8] at ht
    simp at ht⟩)
  (by kernel_rfl)
#print axioms lexerKnown_card_holds
end Go.Proofs.YtclbmmiedihepaaGreatDoor
