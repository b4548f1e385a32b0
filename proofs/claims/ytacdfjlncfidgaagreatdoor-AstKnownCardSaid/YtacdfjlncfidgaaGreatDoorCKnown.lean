/- emend/emendlaw10.AstKnown returns true on every input, and its card. -/
import Derived.Test.YtacdfjlncfidgaaGreatDoorRQ
import Derived.Test.YtacdfjlncfidgaaGreatDoorTA
import Derived.ProofKit
import Derived.Test.YtacdfjlncfidgaaGreatDoorXKnown
import Derived.Test.YtacdfjlncfidgaaGreatDoorCards
import Derived.Test.YtacdfjlncfidgaaGreatDoorTie
import Derived.LaidOnce
import Derived.SevenTiedAt
namespace Go.Proofs.YtacdfjlncfidgaaGreatDoor
open Go.RowKit
set_option linter.unusedVariables false
set_option linter.unusedSimpArgs false
set_option maxRecDepth 100000
set_option maxHeartbeats 6400000
open Go.ChangeShapes Go.WideShapes Go.ChangeAt Go.RowKit
theorem astKnown_own:ownKnob Tryz.prog.godebug=none:=by kernel_rfl
theorem astKnown_laidOut:laidOutB Tryz.prog=true:=by kernel_rfl
theorem astKnown_lifted (os:Os) (started:os.Started) (H:Type) (enc:TypeId×Value→H) :
  ReturnsInHanded {} Tryz.checked os 10 .any (fun w args=>(Rows.astKnownSpec.pre enc Tryz.prog Tryz.f10 [] false w args∧laidMetH Tryz.prog Rows.astKnownRow.laid w)∧sizedMet enc Tryz.prog Tryz.f10 (OpenSpec.ofChange Rows.astKnownSpec) false w args)
   (Rows.astKnownSpec.post enc Tryz.prog Tryz.f10 false true false false):=by
 refine qbn (C:=Tryz.checked) (X:=fun w _=>laidMetH Tryz.prog Rows.astKnownRow.laid w) (fun _ _ _ hh h=>h.of_heap hh) astKnown_own started (by kernel_rfl) Tryz.func10
  (ChangeSpec.witness_shaped (enc:=enc) (C:=Tryz.checked) (os:=os) (X:=fun w _=>laidMetH Tryz.prog Rows.astKnownRow.laid w) false (World.laidAll Tryz.prog os Rows.astKnownRow.laid) #[] 8 (World.laidAll_os _ _ _)
   (World.shaped_of_ZipB (by kernel_rfl) (by kernel_rfl)) (by kernel_rfl) (by kernel_rfl) (by kernel_rfl)
   (by rw[MakeChecks.laidMetH_plain _ _ _ (by kernel_rfl)];exact laidMet_laidAll _ (by kernel_rfl) (by kernel_rfl))) ?_
 intro W base args ds gs before hval0 hW _ hL hsh
 have hval:∀ (j:Nat) t v,Tryz.f10.params[j]?=some t→args[j]?=some v→Value.okWide Tryz.prog W .any base t v:=hval0
 have hW':=hW
 obtain⟨p,q,hA0,hV,rfl,_,_⟩:=hW
 have hA:DataW.TrodAll enc Tryz.prog W 0 (fun _=>true) true Tryz.f10.params.toList args.toList ds p:=hA0
 obtain⟨rfl,rfl⟩:=trodVars_none hV
 rw[Tryz.params10] at hA hval
 obtain⟨e1,rfl,rfl⟩:=trodAll_nil hA
 obtain rfl:args=#[]:=by rw[← Array.toList_inj];exact e1
 simp only[List.append_nil] at hW'
 rw[MakeChecks.laidMetH_plain _ _ _ (by kernel_rfl)] at hL
 have hG:LexG W:=qnH hsh (by exact hL)
 exact qkO astKnown_laidOut (by kernel_rfl) (show Tryz.f10.resultTypes=#[4] by kernel_rfl) Tryz.underlying4 rfl rfl hW' (lawKnown W hG)
theorem astKnown_facts:joinedFacts Tryz.prog 10 Tryz.f10 Rows.astKnownSpec Rows.astKnownRow=true:=by
 simp only[joinedFacts,Bool.and_eq_true]
 repeat' apply And.intro
 all_goals (as_aux_lemma=>kernel_rfl)
theorem astKnown_holds:Rows.AstKnownSaid :=
 OpenClaim.holds_of_wide 10 Tryz.f10 rfl rfl rfl rfl rfl rfl rfl ⟨rfl,rfl,rfl,rfl,rfl⟩ rfl rfl rfl rfl rfl (by kernel_rfl) Tryz.func10 astKnown_facts
  (of_decide_eq_true (by kernel_rfl)) (by unfold Func.isWrapper;first | (rw[if_pos (by decide +kernel)];kernel_rfl) | (rw[if_neg (by decide +kernel)];exact⟨rfl,rfl⟩))
  (fun os started H enc _=>astKnown_lifted os started H enc)
theorem astKnown_card_holds:Rows.AstKnownCardSaid :=
 Claim7.holds_tied_plain_at .later [] [.data,.data,.widerDeep,.widerDeep,.data,.data,.data,.data,.data,.data,.sentinel,.sentinel,.listed,.data,.pinned,.pinned,.pinned] true (true, "6019c7297ac73611fc892717ca7beca5fea8eb29bf3f78ee2f02ef925844ad31") true
  astKnown_holds (fun _ h=>by cases h) (by kernel_rfl) (fun _ h=>by cases h) astKnown_row_tie rfl ⟨rfl,rfl⟩ (by kernel_rfl) rfl
  (fun f fn hf hfn=>by
   obtain rfl:f=10:=Option.some.inj ((show Tryz.prog.funcNamed "emend/emendlaw10.AstKnown" = some 10 by kernel_rfl).symm.trans hf) |>.symm
   obtain rfl:fn=Tryz.f10:=(Option.some.inj (Tryz.func10.symm.trans hfn)).symm
   exact⟨by kernel_rfl,fun j t ht=>by
    rw[Tryz.params10] at ht
    simp at ht⟩)
  (by kernel_rfl)
#print axioms astKnown_card_holds
end Go.Proofs.YtacdfjlncfidgaaGreatDoor
