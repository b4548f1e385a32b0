/- emend/emendlaw10.AstNodes returns true on every input, and its card. -/
import Derived.Test.YtacdfjlncfidgaaGreatDoorRQ
import Derived.Test.YtacdfjlncfidgaaGreatDoorTA
import Derived.Test.YtacdfjlncfidgaaGreatDoorXNodes
import Derived.Test.YtacdfjlncfidgaaGreatDoorCards
import Derived.Test.YtacdfjlncfidgaaGreatDoorTie
import Derived.ProofKit
import Derived.LaidOnce
import Derived.SevenTiedAt
namespace Go.Proofs.YtacdfjlncfidgaaGreatDoor
open Go.RowKit
set_option linter.unusedVariables false
set_option linter.unusedSimpArgs false
set_option maxRecDepth 100000
set_option maxHeartbeats 6400000
open Go.ChangeShapes Go.WideShapes Go.ChangeAt Go.RowKit
theorem astNodes_own : ownKnob Tryz.prog.godebug = none := by kernel_rfl
theorem astNodes_laidOut : laidOutB Tryz.prog = true := by kernel_rfl
theorem astNodes_lifted (os : Os) (started : os.Started) (H : Type) (enc : TypeId × Value → H) :
  ReturnsInHanded {} Tryz.checked os 8 .any (fun w args => (Rows.astNodesSpec.pre enc Tryz.prog Tryz.f8 [] false w args ∧ laidMetH Tryz.prog Rows.astNodesRow.laid w) ∧ sizedMet enc Tryz.prog Tryz.f8 (OpenSpec.ofChange Rows.astNodesSpec) false w args)
   (Rows.astNodesSpec.post enc Tryz.prog Tryz.f8 false true false false) := by
 refine wrap_and_shaped (C := Tryz.checked) (X := fun w _ => laidMetH Tryz.prog Rows.astNodesRow.laid w) (fun _ _ _ hh h => h.of_heap hh) astNodes_own started (by kernel_rfl) Tryz.func8
  (ChangeSpec.witness_shaped (enc := enc) (C := Tryz.checked) (os := os) (X := fun w _ => laidMetH Tryz.prog Rows.astNodesRow.laid w) false (World.laidAll Tryz.prog os Rows.astNodesRow.laid) #[.agg #[.int .i64 0, .int .i64 0, .int .i64 0, .int .i64 0, .string ⟨#[]⟩, .slice none 0 0], .int .i64 0, .int .u16 0] 8 (World.laidAll_os _ _ _)
   (World.shaped_of_ZipB (by kernel_rfl) (by kernel_rfl)) (by kernel_rfl) (by kernel_rfl) (by kernel_rfl)
   (by rw [MakeChecks.laidMetH_plain _ _ _ (by kernel_rfl)]; exact laidMet_laidAll _ (by kernel_rfl) (by kernel_rfl))) ?_
 intro W base args ds gs before hval0 hW _ hL hsh
 have hval : ∀ (j : Nat) t v, Tryz.f8.params[j]? = some t → args[j]? = some v → Value.okWide Tryz.prog W .any base t v := hval0
 have hW' := hW
 obtain ⟨p, q, hA0, hV, rfl, _, _⟩ := hW
 have hA : DataW.TrodAll enc Tryz.prog W 0 (fun _ => true) true Tryz.f8.params.toList args.toList ds p := hA0
 obtain ⟨rfl, rfl⟩ := trodVars_none hV
 rw [Tryz.params8] at hA hval
 obtain ⟨v0, vs0, d0, ds0, p0, q0, ea0, ed0, ep0, h0, hA0⟩ := trodAll_cons hA
 obtain ⟨v1, vs1, d1, ds1, p1, q1, ea1, ed1, ep1, h1, hA1⟩ := trodAll_cons hA0
 obtain ⟨v2, vs2, d2, ds2, p2, q2, ea2, ed2, ep2, h2, hA2⟩ := trodAll_cons hA1
 obtain ⟨ez, ey, ex⟩ := trodAll_nil hA2
 subst ez ey ex
 subst ed2 ep2
 subst ed1 ep1
 subst ed0
 obtain rfl : args = #[v0, v1, v2] := by rw [← Array.toList_inj, ea0, ea1, ea2]
 obtain ⟨t0, r0, rfl, hm0, hf0⟩ := node_open (hval 0 _ _ rfl rfl) h0
 obtain ⟨x1, rfl, rfl, rfl, wx1⟩ := open_int Tryz.underlying3 (hval 1 _ _ rfl rfl) h1
 have hx1 : -9223372036854775808 ≤ x1 ∧ x1 ≤ 9223372036854775807 := by simpa [Lit.wf, IntKind.min, IntKind.max, IntKind.signed, IntKind.bits] using wx1
 obtain ⟨x2, rfl, rfl, rfl, wx2⟩ := open_int Tryz.underlying35 (hval 2 _ _ rfl rfl) h2
 have hx2 : 0 ≤ x2 ∧ x2 ≤ 65535 := by simpa [Lit.wf, IntKind.min, IntKind.max, IntKind.signed, IntKind.bits] using wx2
 obtain ⟨n2, rfl⟩ : ∃ n : Nat, x2 = (n : Int) := ⟨x2.toNat, by omega⟩
 simp only [List.append_nil] at hW'
 rw [MakeChecks.laidMetH_plain _ _ _ (by kernel_rfl)] at hL
 have hG : LexG W := lexg_of hsh (by exact hL)
 exact law_post astNodes_laidOut (by kernel_rfl) (show Tryz.f8.resultTypes = #[4] by kernel_rfl) Tryz.underlying4 rfl rfl hW' (lawNodes x1 (n2 : Int) hx2.1 hx2.2 t0 r0 W hG hm0 hf0)
theorem astNodes_facts : joinedFacts Tryz.prog 8 Tryz.f8 Rows.astNodesSpec Rows.astNodesRow = true := by
 simp only [joinedFacts, Bool.and_eq_true]
 repeat' apply And.intro
 all_goals (as_aux_lemma => kernel_rfl)
theorem astNodes_holds : Rows.AstNodesSaid :=
 OpenClaim.holds_of_wide 8 Tryz.f8 rfl rfl rfl rfl rfl rfl rfl ⟨rfl, rfl, rfl, rfl, rfl⟩ rfl rfl rfl rfl rfl (by kernel_rfl) Tryz.func8 astNodes_facts
  (of_decide_eq_true (by kernel_rfl)) (by unfold Func.isWrapper; first | (rw [if_pos (by decide +kernel)]; kernel_rfl) | (rw [if_neg (by decide +kernel)]; exact ⟨rfl, rfl⟩))
  (fun os started H enc _ => astNodes_lifted os started H enc)
theorem astNodes_card_holds : Rows.AstNodesCardSaid :=
 Claim7.holds_tied_plain_at .later [] [.data, .data, .widerDeep, .widerDeep, .data, .data, .data, .data, .data, .data, .sentinel, .sentinel, .listed, .data, .pinned, .pinned, .pinned] true (true, "6019c7297ac73611fc892717ca7beca5fea8eb29bf3f78ee2f02ef925844ad31") true
  astNodes_holds (fun _ h => by cases h) (by kernel_rfl) (fun _ h => by cases h) astNodes_row_tie rfl ⟨rfl, rfl⟩ (by kernel_rfl) rfl
  (fun f fn hf hfn => by
   obtain rfl : f = 8 := Option.some.inj ((show Tryz.prog.funcNamed "emend/emendlaw10.AstNodes" = some 8 by kernel_rfl).symm.trans hf) |>.symm
   obtain rfl : fn = Tryz.f8 := (Option.some.inj (Tryz.func8.symm.trans hfn)).symm
   exact ⟨by kernel_rfl, fun j t ht => by
    rw [Tryz.params8] at ht
    have hm : t ∈ [24, 3, 35] := by simpa using Array.mem_of_getElem? ht
    have hall : ([24, 3, 35].all fun u => !Tryz.prog.wantsStandIn u) = true := by kernel_rfl
    exact (show Tryz.prog.wantsStandIn t = false by simpa using List.all_eq_true.1 hall t hm)⟩)
  (by kernel_rfl)
#print axioms astNodes_card_holds
end Go.Proofs.YtacdfjlncfidgaaGreatDoor
