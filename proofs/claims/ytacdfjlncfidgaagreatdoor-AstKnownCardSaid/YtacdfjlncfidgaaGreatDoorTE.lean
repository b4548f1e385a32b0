/- A part of what the claim leans on. -/
import Derived.Test.YtacdfjlncfidgaaGreatDoorQS
import Derived.Test.YtacdfjlncfidgaaGreatDoorTB
import Derived.TacticsIn
import Derived.OwnWalkIn
import Derived.LoopIn
import Derived.Test.YtacdfjlncfidgaaGreatDoorRE
import Derived.Test.YtacdfjlncfidgaaGreatDoorRI
namespace Go.Proofs.YtacdfjlncfidgaaGreatDoor
open Go.RowKit
set_option linter.unusedVariables false
set_option linter.unusedSimpArgs false
set_option maxRecDepth 100000
set_option maxHeartbeats 3200000
theorem JJ (s L:ByteArray) (W:List BL) (m:Nat) (hm:W.length=m) (hW:Lib.fields L.data.toList=W) (hL:L.size<1000) (ha:L.data.toList.all (fun b=>decide (b.toNat<128))=true) (hw:m≤20) (w:World) (hG:LexG w) :
  Calls Tryz.prog 95 #[.string s,.string L] w fun e w'=>e = .returned (.bool (jp W s.data.toList))∧Below w.heap.size w w':=by
 have hf:=Tryz.strings_Fields L w zxo (qcA L ha) hG.sp
 rw[hW,hm] at hf
 have hb:(w.alloc (.cells (W.map fun l=>Value.string ⟨l.toArray⟩).toArray 9)).heap[w.heap.size]?=some (.cells (W.map fun l=>Value.string ⟨l.toArray⟩).toArray 9 (0,0)):=heap_alloc_new w _
 have hc:=Tryz.slices_Contains_string w.heap.size 0 m m (W.map qn) s (w.alloc (.cells (W.map fun l=>Value.string ⟨l.toArray⟩).toArray 9)) (by simp[hm]) zxo (qcJ W _ _ hb)
 rw[show(W.map qn).take m=W.map qn from List.take_of_length_le (by simp[hm]),JQ] at hc
 have HF:=zxi hf
 have HC:=zxi hc
 have HB:=zxi ((Below.refl w.heap.size w).alloc zxn (.cells (W.map fun l=>Value.string ⟨l.toArray⟩).toArray 9))
 clear hb hc hf hW hL ha hG hm
 go_enter Tryz.func95,Tryz.ntmps95
 go_wp2_with (first
  | (go_at_call 109;refine HF.out.mono ?_;rintro e w' ⟨rfl,rfl⟩)
  | (go_at_call 103;refine HC.out.mono ?_;rintro e w' ⟨rfl,rfl⟩))
 go_ret
 exact⟨rfl,HB.out⟩
theorem qqi (s:ByteArray) (w:World) (hG:LexG w):Calls Tryz.prog 86 #[.string s] w fun e w'=>e = .returned (.bool (jp basicW s.data.toList))∧Below w.heap.size w w':=by
 have HW:=zxi (JJ s ⟨#[105,110,116,32,98,111,111,108,32,115,116,114,105,110,103,32,102,108,111,97,116,54,52]⟩ basicW 4 rfl (by decide +kernel) zxd (by decide +kernel) zxd w hG)
 clear hG
 go_enter Tryz.func86,Tryz.ntmps86
 go_wp2_with (go_at_call 95;refine HW.out.mono ?_;rintro e w' ⟨rfl,hb⟩)
 go_ret
 exact⟨rfl,hb⟩
theorem JH (op:BL) (j:Nat) (W:List BL) (hW:levW[j]?=some W) (h:jp W op=true) (hno:∀ i V,i<j→levW[i]?=some V→jp V op=false):jV op=j+1:=by
 have hj:=(List.getElem?_eq_some_iff.1 hW).1
 have:levW.findIdx? (fun l=>l.contains op)=some j:=by
  rw[List.findIdx?_eq_some_iff_getElem]
  refine⟨hj,?_,fun i hi=>?_⟩
  · have:=(List.getElem?_eq_some_iff.1 hW).2;rw[this];exact h
  · have:=hno i _ hi (List.getElem?_eq_getElem zxo);show ¬ jp _ _=true;rw[this];simp
 unfold jV
 rw[this]
theorem qfO (op:BL) (hno:∀ i V,i<5→levW[i]?=some V→jp V op=false):jV op=0:=by
 have:levW.findIdx? (fun l=>l.contains op)=none:=by
  rw[List.findIdx?_eq_none_iff]
  intro V hV
  obtain⟨i,hi,e⟩:=List.getElem_of_mem hV
  exact hno i V hi (by rw[List.getElem?_eq_getElem hi,e])
 unfold jV
 rw[this]
theorem Qd {op:BL} {j:Nat} {W:List BL} (h:∀ i V,i<j→levW[i]?=some V→jp V op=false) (hW:levW[j]?=some W) (hq:jp W op=false):∀ i V,i<j+1→levW[i]?=some V→jp V op=false:=fun i V hi hV=>by
 rcases Nat.lt_or_ge i j with h1 | h1
 · exact h i V h1 hV
 · obtain rfl:i=j:=by omega
   rw[hW] at hV;cases hV;exact hq
theorem qpU (s:ByteArray) (w:World) (hG:LexG w):Calls Tryz.prog 113 #[.string s] w fun e w'=>e = .returned (.int .i64 (jV s.data.toList))∧Below w.heap.size w w':=by
 have HG:=zxi hG
 clear hG
 go_enter Tryz.func113,Tryz.ntmps113
 go_wp2_with fail
 go_loopw [6] (fun i wr=>∃ j:Nat,j≤5∧i = .int .i64 j∧(∀ i V,i<j→levW[i]?=some V→jp V s.data.toList=false)∧Below w.heap.size w wr) (fun i _=>5-(intOf i).toNat)
 case atStart=>exact⟨0,Nat.zero_le _,rfl,fun i V h=>by omega,Below.refl _ _⟩
 case round =>
  obtain⟨j,hj,rfl,hno,hb⟩:=hrel
  have HNO:=zxi hno
  have HB1:=zxi hb
  clear hno hb
  rcases (by omega:j=0∨j=1∨j=2∨j=3∨j=4∨j=5) with rfl | rfl | rfl | rfl | rfl | rfl
  · have i0:∀ w,(Instr.index 124 (.agg #[.string ⟨#[124,124]⟩,.string ⟨#[38,38]⟩,.string ⟨#[61,61,32,33,61,32,60,32,60,61,32,62,32,62,61]⟩,.string ⟨#[43,32,45]⟩,.string ⟨#[42,32,47,32,37]⟩]) (.int .i64 0)).run Tryz.prog w = .ok (.string ⟨#[124,124]⟩) w:=fun _=>by kernel_rfl
    have HC:=zxi (JJ s ⟨#[124,124]⟩ [[124,124]] 1 rfl (by decide +kernel) zxd (by decide +kernel) zxd wr (HG.out.below HB1.out))
    cases hq:jp [[124,124]] s.data.toList with
    | true =>
     rw[hq] at HC
     have HV:=zxi (JH s.data.toList 0 _ rfl hq HNO.out)
     exact qhB
    | false =>
     rw[hq] at HC
     have HN:=zxi (Qd HNO.out rfl hq)
     clear hq
     go_wp2_with (go_at_call 95;refine HC.out.mono ?_;rintro e w2 ⟨rfl,hb2⟩;have HB2:=zxi (qa HB1.out hb2);clear hb2)
     go_roundw
     case rel=>exact⟨1,by omega,by go_num,HN.out,HB2.out⟩
     case measure=>simp[intOf]
  · have i0:∀ w,(Instr.index 124 (.agg #[.string ⟨#[124,124]⟩,.string ⟨#[38,38]⟩,.string ⟨#[61,61,32,33,61,32,60,32,60,61,32,62,32,62,61]⟩,.string ⟨#[43,32,45]⟩,.string ⟨#[42,32,47,32,37]⟩]) (.int .i64 1)).run Tryz.prog w = .ok (.string ⟨#[38,38]⟩) w:=fun _=>by kernel_rfl
    have HC:=zxi (JJ s ⟨#[38,38]⟩ [[38,38]] 1 rfl (by decide +kernel) zxd (by decide +kernel) zxd wr (HG.out.below HB1.out))
    cases hq:jp [[38,38]] s.data.toList with
    | true =>
     rw[hq] at HC
     have HV:=zxi (JH s.data.toList 1 _ rfl hq HNO.out)
     exact qhB
    | false =>
     rw[hq] at HC
     have HN:=zxi (Qd HNO.out rfl hq)
     clear hq
     go_wp2_with (go_at_call 95;refine HC.out.mono ?_;rintro e w2 ⟨rfl,hb2⟩;have HB2:=zxi (qa HB1.out hb2);clear hb2)
     go_roundw
     case rel=>exact⟨2,by omega,by go_num,HN.out,HB2.out⟩
     case measure=>simp[intOf]
  · have i0:∀ w,(Instr.index 124 (.agg #[.string ⟨#[124,124]⟩,.string ⟨#[38,38]⟩,.string ⟨#[61,61,32,33,61,32,60,32,60,61,32,62,32,62,61]⟩,.string ⟨#[43,32,45]⟩,.string ⟨#[42,32,47,32,37]⟩]) (.int .i64 2)).run Tryz.prog w = .ok (.string ⟨#[61,61,32,33,61,32,60,32,60,61,32,62,32,62,61]⟩) w:=fun _=>by kernel_rfl
    have HC:=zxi (JJ s ⟨#[61,61,32,33,61,32,60,32,60,61,32,62,32,62,61]⟩ [[61,61],[33,61],[60],[60,61],[62],[62,61]] 6 rfl (by decide +kernel) zxd (by decide +kernel) zxd wr (HG.out.below HB1.out))
    cases hq:jp [[61,61],[33,61],[60],[60,61],[62],[62,61]] s.data.toList with
    | true =>
     rw[hq] at HC
     have HV:=zxi (JH s.data.toList 2 _ rfl hq HNO.out)
     exact qhB
    | false =>
     rw[hq] at HC
     have HN:=zxi (Qd HNO.out rfl hq)
     clear hq
     go_wp2_with (go_at_call 95;refine HC.out.mono ?_;rintro e w2 ⟨rfl,hb2⟩;have HB2:=zxi (qa HB1.out hb2);clear hb2)
     go_roundw
     case rel=>exact⟨3,by omega,by go_num,HN.out,HB2.out⟩
     case measure=>simp[intOf]
  · have i0:∀ w,(Instr.index 124 (.agg #[.string ⟨#[124,124]⟩,.string ⟨#[38,38]⟩,.string ⟨#[61,61,32,33,61,32,60,32,60,61,32,62,32,62,61]⟩,.string ⟨#[43,32,45]⟩,.string ⟨#[42,32,47,32,37]⟩]) (.int .i64 3)).run Tryz.prog w = .ok (.string ⟨#[43,32,45]⟩) w:=fun _=>by kernel_rfl
    have HC:=zxi (JJ s ⟨#[43,32,45]⟩ [[43],[45]] 2 rfl (by decide +kernel) zxd (by decide +kernel) zxd wr (HG.out.below HB1.out))
    cases hq:jp [[43],[45]] s.data.toList with
    | true =>
     rw[hq] at HC
     have HV:=zxi (JH s.data.toList 3 _ rfl hq HNO.out)
     exact qhB
    | false =>
     rw[hq] at HC
     have HN:=zxi (Qd HNO.out rfl hq)
     clear hq
     go_wp2_with (go_at_call 95;refine HC.out.mono ?_;rintro e w2 ⟨rfl,hb2⟩;have HB2:=zxi (qa HB1.out hb2);clear hb2)
     go_roundw
     case rel=>exact⟨4,by omega,by go_num,HN.out,HB2.out⟩
     case measure=>simp[intOf]
  · have i0:∀ w,(Instr.index 124 (.agg #[.string ⟨#[124,124]⟩,.string ⟨#[38,38]⟩,.string ⟨#[61,61,32,33,61,32,60,32,60,61,32,62,32,62,61]⟩,.string ⟨#[43,32,45]⟩,.string ⟨#[42,32,47,32,37]⟩]) (.int .i64 4)).run Tryz.prog w = .ok (.string ⟨#[42,32,47,32,37]⟩) w:=fun _=>by kernel_rfl
    have HC:=zxi (JJ s ⟨#[42,32,47,32,37]⟩ [[42],[47],[37]] 3 rfl (by decide +kernel) zxd (by decide +kernel) zxd wr (HG.out.below HB1.out))
    cases hq:jp [[42],[47],[37]] s.data.toList with
    | true =>
     rw[hq] at HC
     have HV:=zxi (JH s.data.toList 4 _ rfl hq HNO.out)
     exact qhB
    | false =>
     rw[hq] at HC
     have HN:=zxi (Qd HNO.out rfl hq)
     clear hq
     go_wp2_with (go_at_call 95;refine HC.out.mono ?_;rintro e w2 ⟨rfl,hb2⟩;have HB2:=zxi (qa HB1.out hb2);clear hb2)
     go_roundw
     case rel=>exact⟨5,by omega,by go_num,HN.out,HB2.out⟩
     case measure=>simp[intOf]
  · have HV:=zxi (qfO s.data.toList HNO.out)
    go_wp2_with fail
    go_ret
    exact⟨by rw[HV.out];rfl,HB1.out⟩
noncomputable def qw (L:BL) (k:Int):Bool:=match ja L with
 | .ok [a,_]=>decide ((a.kind:Int)=k)&&decide (a.text=L)
 | _=>false
theorem qbT {T:TypeId} {w:World} {B:Nat} {v:Value} {l:List Tk} (h:Own tkC 4 T w B v l):∃ A c,v = .slice A l.length c:=by
 obtain⟨A,c,hv,_⟩:=h.row qai
 exact⟨A,c,hv⟩
theorem qjK (s:ByteArray) (k:Int) (w:World) (hG:LexG w):Calls Tryz.prog 114 #[.string s,.int .i64 k] w fun e w'=>e = .returned (.bool (qw s.data.toList k))∧Below w.heap.size w w':=by
 cases ht:ja s.data.toList with
 | error p =>
  obtain⟨p,er⟩:=p
  have HT:=zxi (qiz s w hG ht)
  have HV:=zxi (show qw s.data.toList k=false by unfold qw;rw[ht])
  clear ht
  by_cases h0:er=0
  · subst h0
    exact qqc
  · have b0:(er == 0)=false:=beq_eq_false_iff_ne.2 h0
    exact qqc
 | ok l =>
  have hy:=qgg s w hG ht
  by_cases hl:l.length=2
  · obtain⟨a,b,rfl⟩:∃ a b,l=[a,b]:=by
     match l,hl with
     | [a,b],_=>exact⟨a,b,rfl⟩
    have hv:qw s.data.toList k=(decide ((a.kind:Int)=k)&&decide (a.text=s.data.toList)):=by unfold qw;rw[ht]
    have HY:=zxi hy
    clear ht hy
    obtain⟨y,hyy⟩:∃ y,qn a.text=y:=⟨_,rfl⟩
    have HE:=zxi hyy
    by_cases h1:(a.kind:Int)=k
    · have b1:((a.kind:Int) == k)=true:=beq_iff_eq.2 h1
      by_cases h2:a.text=s.data.toList
      · have HV:=zxi (show qw s.data.toList k=true by rw[hv,decide_eq_true h1,decide_eq_true h2];rfl)
        have e1:y.toList=s.toList:=by rw[← hyy,h2,jE]
        have e2:(y.toList == s.toList)=true:=by rw[e1];simp
        clear hv h2 hyy
        exact qpi
      · have HV:=zxi (show qw s.data.toList k=false by rw[hv,decide_eq_false h2];simp)
        have e1:¬ y.toList=s.toList:=fun e=>h2 (by rw[← hyy,ByteArray.toList_eq,ByteArray.toList_eq,qj] at e;exact e)
        have e2:(y.toList == s.toList)=false:=by simpa using e1
        clear hv h2 hyy
        exact qpi
    · have HV:=zxi (show qw s.data.toList k=false by rw[hv,decide_eq_false h1];rfl)
      have b1:((a.kind:Int) == k)=false:=beq_eq_false_iff_ne.2 h1
      clear hv hyy
      exact qpi
  · have HY:=zxi hy
    have HV:=zxi (show qw s.data.toList k=false by
     unfold qw;rw[ht]
     match l,hl with
     | [],_=>rfl
     | [_],_=>rfl
     | [a,b],h=>exact absurd rfl h
     | _::_::_::_,_=>rfl)
    have b1:((l.length:Int) == 2)=false:=beq_eq_false_iff_ne.2 zxo
    clear ht hy
    go_enter Tryz.func114,Tryz.ntmps114
    go_wp2_with (go_at_call 135;refine HY.out.mono ?_;rintro e w2 ⟨⟨v,rfl,hown⟩,hb⟩;obtain⟨A,c,rfl⟩:=qbT hown)
    exact qew
end Go.Proofs.YtacdfjlncfidgaaGreatDoor
