/- emend/emendlaw10.AstChecks returns true on every input, and its card. -/
import Derived.Test.YtacdfjlncfidgaaGreatDoorQS
import Derived.Test.YtacdfjlncfidgaaGreatDoorRQ
import Derived.Test.YtacdfjlncfidgaaGreatDoorTA
import Derived.Test.YtacdfjlncfidgaaGreatDoorTW
import Derived.Test.YtacdfjlncfidgaaGreatDoorTX
import Derived.Test.YtacdfjlncfidgaaGreatDoorCards
import Derived.Test.YtacdfjlncfidgaaGreatDoorTie
import Derived.ProofKit
import Derived.LaidOnce
import Derived.SevenTiedAt
namespace Go.Proofs.YtacdfjlncfidgaaGreatDoor
open Go.RowKit
set_option linter.unusedVariables false
set_option linter.unusedSimpArgs false
set_option maxRecDepth 100000
set_option maxHeartbeats 6400000
open Go.ChangeShapes Go.WideShapes Go.ChangeAt Go.RowKit
theorem qco:ownKnob Tryz.prog.godebug=none:=by kernel_rfl
theorem qaI:laidOutB Tryz.prog=true:=by kernel_rfl
theorem qaQ (os:Os) (started:os.Started) (H:Type) (enc:TypeId×Value→H) :
  ReturnsInHanded {} Tryz.checked os 3 .any (fun w args=>(Rows.astChecksSpec.pre enc Tryz.prog Tryz.f3 [] false w args∧laidMetH Tryz.prog Rows.astChecksRow.laid w)∧sizedMet enc Tryz.prog Tryz.f3 (OpenSpec.ofChange Rows.astChecksSpec) false w args)
   (Rows.astChecksSpec.post enc Tryz.prog Tryz.f3 false true false false):=by
 refine qbn (C:=Tryz.checked) (X:=fun w _=>laidMetH Tryz.prog Rows.astChecksRow.laid w) (fun _ _ _ hh h=>h.of_heap hh) qco started (by kernel_rfl) Tryz.func3
  (ChangeSpec.witness_shaped (enc:=enc) (C:=Tryz.checked) (os:=os) (X:=fun w _=>laidMetH Tryz.prog Rows.astChecksRow.laid w) false (World.laidAll Tryz.prog os Rows.astChecksRow.laid) #[.agg #[.int .i64 0,.int .i64 0,.int .i64 0,.int .i64 0,.string ⟨#[]⟩,.slice none 0 0]] 8 (World.laidAll_os _ _ _)
   (World.shaped_of_ZipB (by kernel_rfl) (by kernel_rfl)) (by kernel_rfl) (by kernel_rfl) (by kernel_rfl)
   (by rw[MakeChecks.laidMetH_plain _ _ _ (by kernel_rfl)];exact laidMet_laidAll _ (by kernel_rfl) (by kernel_rfl))) ?_
 intro W base args ds gs before hval0 hW _ hL hsh
 have hval:∀ (j:Nat) t v,Tryz.f3.params[j]?=some t→args[j]?=some v→Value.okWide Tryz.prog W .any base t v:=hval0
 have hW':=hW
 obtain⟨p,q,hA0,hV,rfl,_,_⟩:=hW
 have hA:DataW.TrodAll enc Tryz.prog W 0 (fun _=>true) true Tryz.f3.params.toList args.toList ds p:=hA0
 obtain⟨rfl,rfl⟩:=trodVars_none hV
 rw[Tryz.params3] at hA hval
 obtain⟨v0,vs0,d0,ds0,p0,q0,ea0,ed0,ep0,h0,hA0⟩:=trodAll_cons hA
 obtain⟨ez,ey,ex⟩:=trodAll_nil hA0
 subst ez ey ex
 subst ed0
 obtain rfl:args=#[v0]:=by rw[← Array.toList_inj,ea0]
 obtain⟨t0,r0,rfl,hm0,hf0⟩:=qhA (hval 0 _ _ rfl rfl) h0
 simp only[List.append_nil] at hW'
 rw[MakeChecks.laidMetH_plain _ _ _ (by kernel_rfl)] at hL
 have hG:LexG W:=qnH hsh (by exact hL)
 exact qkO qaI (by kernel_rfl) (show Tryz.f3.resultTypes=#[4] by kernel_rfl) Tryz.underlying4 rfl rfl hW' (qhD qtK t0 r0 W hG hm0 hf0)
theorem qa5:joinedFacts Tryz.prog 3 Tryz.f3 Rows.astChecksSpec Rows.astChecksRow=true:=by
 simp only[joinedFacts,Bool.and_eq_true]
 repeat' apply And.intro
 all_goals (as_aux_lemma=>kernel_rfl)
theorem qbx:Rows.AstChecksSaid :=
 OpenClaim.holds_of_wide 3 Tryz.f3 rfl rfl rfl rfl rfl rfl rfl ⟨rfl,rfl,rfl,rfl,rfl⟩ rfl rfl rfl rfl rfl (by kernel_rfl) Tryz.func3 qa5
  (of_decide_eq_true (by kernel_rfl)) (by unfold Func.isWrapper;first | (rw[if_pos (by decide +kernel)];kernel_rfl) | (rw[if_neg (by decide +kernel)];exact⟨rfl,rfl⟩))
  (fun os started H enc _=>qaQ os started H enc)
theorem astChecks_card_holds:Rows.AstChecksCardSaid :=
 Claim7.holds_tied_plain_at .later [] [.data,.data,.widerDeep,.widerDeep,.data,.data,.data,.data,.data,.data,.sentinel,.sentinel,.listed,.data,.pinned,.pinned,.pinned] true (true, "6019c7297ac73611fc892717ca7beca5fea8eb29bf3f78ee2f02ef925844ad31") true
  qbx (fun _ h=>by cases h) (by kernel_rfl) (fun _ h=>by cases h) astChecks_row_tie rfl ⟨rfl,rfl⟩ (by kernel_rfl) rfl
  (fun f fn hf hfn=>by
   obtain rfl:f=3:=Option.some.inj ((show Tryz.prog.funcNamed "emend/emendlaw10.AstChecks" = some 3 by kernel_rfl).symm.trans hf) |>.symm
   obtain rfl:fn=Tryz.f3:=(Option.some.inj (Tryz.func3.symm.trans hfn)).symm
   exact⟨by kernel_rfl,fun j t ht=>by
    rw[Tryz.params3] at ht
    have hm:t∈[24]:=by simpa using Array.mem_of_getElem? ht
    have hall:([24].all fun u => !Tryz.prog.wantsStandIn u)=true:=by kernel_rfl
    exact(show Tryz.prog.wantsStandIn t=false by simpa using List.all_eq_true.1 hall t hm)⟩)
  (by kernel_rfl)
#print axioms astChecks_card_holds
end Go.Proofs.YtacdfjlncfidgaaGreatDoor
