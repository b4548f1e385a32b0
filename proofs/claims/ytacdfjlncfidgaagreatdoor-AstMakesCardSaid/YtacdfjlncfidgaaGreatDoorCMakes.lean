/- emend/emendlaw10.AstMakes returns true on every input, and its card. -/
import Derived.Test.YtacdfjlncfidgaaGreatDoorRQ
import Derived.Test.YtacdfjlncfidgaaGreatDoorTA
import Derived.Test.YtacdfjlncfidgaaGreatDoorXMakes
import Derived.Test.YtacdfjlncfidgaaGreatDoorYMakes
import Derived.Test.YtacdfjlncfidgaaGreatDoorCards
import Derived.Test.YtacdfjlncfidgaaGreatDoorTie
import Derived.ProofKit
import Derived.LaidOnce
import Derived.SevenTiedAt
namespace Go.Proofs.YtacdfjlncfidgaaGreatDoor
open Go.RowKit
set_option linter.unusedVariables false
set_option linter.unusedSimpArgs false
set_option maxRecDepth 100000
set_option maxHeartbeats 6400000
open Go.ChangeShapes Go.WideShapes Go.ChangeAt Go.RowKit
theorem astMakes_lifted (os : Os) (started : os.Started) (H : Type) (enc : TypeId × Value → H) :
  ReturnsInHanded {} Tryz.checked os 7 .any (fun w args => (Rows.astMakesSpec.pre enc Tryz.prog Tryz.f7 [] false w args ∧ laidMetH Tryz.prog Rows.astMakesRow.laid w) ∧ sizedMet enc Tryz.prog Tryz.f7 (OpenSpec.ofChange Rows.astMakesSpec) false w args)
   (Rows.astMakesSpec.post enc Tryz.prog Tryz.f7 false true false false) := by
 refine wrap_and_shaped (C := Tryz.checked) (X := fun w _ => laidMetH Tryz.prog Rows.astMakesRow.laid w) (fun _ _ _ hh h => h.of_heap hh) astMakes_own started (by kernel_rfl) Tryz.func7
  (ChangeSpec.witness_shaped (enc := enc) (C := Tryz.checked) (os := os) (X := fun w _ => laidMetH Tryz.prog Rows.astMakesRow.laid w) false (World.laidAll Tryz.prog os Rows.astMakesRow.laid) #[.agg #[.int .i64 0, .int .i64 0, .int .i64 0, .int .i64 0, .string ⟨#[]⟩, .slice none 0 0], .int .u16 0] 8 (World.laidAll_os _ _ _)
   (World.shaped_of_ZipB (by kernel_rfl) (by kernel_rfl)) (by kernel_rfl) (by kernel_rfl) (by kernel_rfl)
   (by rw [MakeChecks.laidMetH_plain _ _ _ (by kernel_rfl)]; exact laidMet_laidAll _ (by kernel_rfl) (by kernel_rfl))) ?_
 intro W base args ds gs before hval0 hW _ hL hsh
 have hval : ∀ (j : Nat) t v, Tryz.f7.params[j]? = some t → args[j]? = some v → Value.okWide Tryz.prog W .any base t v := hval0
 have hW' := hW
 obtain ⟨p, q, hA0, hV, rfl, _, _⟩ := hW
 have hA : DataW.TrodAll enc Tryz.prog W 0 (fun _ => true) true Tryz.f7.params.toList args.toList ds p := hA0
 obtain ⟨rfl, rfl⟩ := trodVars_none hV
 rw [Tryz.params7] at hA hval
 obtain ⟨v0, vs0, d0, ds0, p0, q0, ea0, ed0, ep0, h0, hA0⟩ := trodAll_cons hA
 obtain ⟨v1, vs1, d1, ds1, p1, q1, ea1, ed1, ep1, h1, hA1⟩ := trodAll_cons hA0
 obtain ⟨ez, ey, ex⟩ := trodAll_nil hA1
 subst ez ey ex
 subst ed1 ep1
 subst ed0
 obtain rfl : args = #[v0, v1] := by rw [← Array.toList_inj, ea0, ea1]
 obtain ⟨t0, r0, rfl, hm0, hf0⟩ := node_open (hval 0 _ _ rfl rfl) h0
 obtain ⟨x1, rfl, rfl, rfl, wx1⟩ := open_int Tryz.underlying35 (hval 1 _ _ rfl rfl) h1
 have hx1 : 0 ≤ x1 ∧ x1 ≤ 65535 := by simpa [Lit.wf, IntKind.min, IntKind.max, IntKind.signed, IntKind.bits] using wx1
 obtain ⟨n1, rfl⟩ : ∃ n : Nat, x1 = (n : Int) := ⟨x1.toNat, by omega⟩
 simp only [List.append_nil] at hW'
 rw [MakeChecks.laidMetH_plain _ _ _ (by kernel_rfl)] at hL
 have hG : LexG W := lexg_of hsh (by exact hL)
 exact law_post astMakes_laidOut (by kernel_rfl) (show Tryz.f7.resultTypes = #[4] by kernel_rfl) Tryz.underlying4 rfl rfl hW' (lawMakes (n1 : Int) hx1.1 hx1.2 t0 r0 W hG hm0 hf0)
theorem astMakes_holds : Rows.AstMakesSaid :=
 OpenClaim.holds_of_wide 7 Tryz.f7 rfl rfl rfl rfl rfl rfl rfl ⟨rfl, rfl, rfl, rfl, rfl⟩ rfl rfl rfl rfl rfl (by kernel_rfl) Tryz.func7 astMakes_facts
  (of_decide_eq_true (by kernel_rfl)) (by unfold Func.isWrapper; first | (rw [if_pos (by decide +kernel)]; kernel_rfl) | (rw [if_neg (by decide +kernel)]; exact ⟨rfl, rfl⟩))
  (fun os started H enc _ => astMakes_lifted os started H enc)
theorem astMakes_card_holds : Rows.AstMakesCardSaid :=
 Claim7.holds_tied_plain_at .later [] [.data, .data, .widerDeep, .widerDeep, .data, .data, .data, .data, .data, .data, .sentinel, .sentinel, .listed, .data, .pinned, .pinned, .pinned] true (true, "6019c7297ac73611fc892717ca7beca5fea8eb29bf3f78ee2f02ef925844ad31") true
  astMakes_holds (fun _ h => by cases h) (by kernel_rfl) (fun _ h => by cases h) astMakes_row_tie rfl ⟨rfl, rfl⟩ (by kernel_rfl) rfl
  (fun f fn hf hfn => by
   obtain rfl : f = 7 := Option.some.inj ((show Tryz.prog.funcNamed "emend/emendlaw10.AstMakes" = some 7 by kernel_rfl).symm.trans hf) |>.symm
   obtain rfl : fn = Tryz.f7 := (Option.some.inj (Tryz.func7.symm.trans hfn)).symm
   exact ⟨by kernel_rfl, fun j t ht => by
    rw [Tryz.params7] at ht
    have hm : t ∈ [24, 35] := by simpa using Array.mem_of_getElem? ht
    have hall : ([24, 35].all fun u => !Tryz.prog.wantsStandIn u) = true := by kernel_rfl
    exact (show Tryz.prog.wantsStandIn t = false by simpa using List.all_eq_true.1 hall t hm)⟩)
  (by kernel_rfl)
#print axioms astMakes_card_holds
end Go.Proofs.YtacdfjlncfidgaaGreatDoor
