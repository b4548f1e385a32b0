/- A part of what the claim leans on. -/
import Derived.Test.YtacdfjlncfidgaaGreatDoorQS
import Derived.Test.YtacdfjlncfidgaaGreatDoorRG
import Derived.Test.YtacdfjlncfidgaaGreatDoorRF
namespace Go.Proofs.YtacdfjlncfidgaaGreatDoor
open Go.RowKit
set_option linter.unusedVariables false
set_option linter.unusedSimpArgs false
set_option maxRecDepth 100000
set_option maxHeartbeats 6400000
theorem JY {L:BL} {k:Nat} (h:atB qf L k=true):k<L.length∧digN (L.drop k)=digN (L.drop (k+1))+1:=by
 unfold atB at h
 split at h
 · rename_i c hc
   have hlt:=(List.getElem?_eq_some_iff.1 hc).1
   refine⟨hlt,?_⟩
   rw[List.drop_eq_getElem_cons hlt,(List.getElem?_eq_some_iff.1 hc).2]
   unfold digN
   rw[List.takeWhile_cons,if_pos h,List.length_cons]
 · cases h
theorem qan {L:BL} {k:Nat} (h:atB qf L k=false):digN (L.drop k)=0:=by
 unfold atB at h
 split at h
 · rename_i c hc
   have hlt:=(List.getElem?_eq_some_iff.1 hc).1
   rw[List.drop_eq_getElem_cons hlt,(List.getElem?_eq_some_iff.1 hc).2]
   unfold digN
   rw[List.takeWhile_cons,h];rfl
 · exact quf
theorem is_some {L:BL} {k:Nat} {x:UInt8}:atB (· == x) L k=true↔L[k]?=some x:=by
 unfold atB
 cases L[k]?<;>simp
theorem qva (L:BL) (k:Nat):sgN (L.drop k)=if atB (· == 43) L k=true∨atB (· == 45) L k=true then 1 else 0:=by
 simp only[is_some]
 cases hd:L.drop k with
 | nil =>
  have:L[k]?=none:=by rw[List.getElem?_eq_none_iff];exact List.drop_eq_nil_iff.1 hd
  rw[this];simp[sgN]
 | cons c r =>
  have hc:L[k]?=some c:=by have:=congrArg (fun l=>l[0]?) hd;simpa using this
  rw[hc]
  unfold sgN
  simp only[Option.some.injEq]
  by_cases h:c.toNat=43∨c.toNat=45
  · rw[if_pos h,if_pos]
    rcases h with h | h
    · exact .inl (UInt8.toNat_inj.1 h)
    · exact .inr (UInt8.toNat_inj.1 h)
  · rw[if_neg h,if_neg]
    rintro(rfl | rfl)
    · exact h (.inl rfl)
    · exact h (.inr rfl)
theorem qqu (L:BL) (b:Nat):qcv (L.drop b)=if atB (· == 101) L b=true∧atB qf L (b+1+sgN (L.drop (b+1)))=true then 1+sgN (L.drop (b+1))+digN (L.drop (b+1+sgN (L.drop (b+1)))) else 0:=by
 simp only[is_some]
 cases hd:L.drop b with
 | nil =>
  have:L[b]?=none:=by rw[List.getElem?_eq_none_iff];exact List.drop_eq_nil_iff.1 hd
  rw[this];simp[qcv]
 | cons c p =>
  have hc:L[b]?=some c:=by have:=congrArg (fun l=>l[0]?) hd;simpa using this
  have hp:L.drop (b+1)=p:=by rw[← List.drop_drop,hd];rfl
  have e:qcv (c::p)=if c.toNat=101 then (if digN (p.drop (sgN p))=0 then 0 else 1+sgN p+digN (p.drop (sgN p))) else 0:=rfl
  rw[e,hc,hp,← hp,List.drop_drop,hp]
  by_cases h:c.toNat=101
  · have:c=101:=UInt8.toNat_inj.1 h
    subst this
    rw[if_pos h]
    cases ha:atB qf L (b+1+sgN p) with
    | true=>rw[if_neg (by have:=(JY ha).2;omega),if_pos ⟨rfl,rfl⟩]
    | false=>rw[if_pos (qan ha),if_neg zxs]
  · rw[if_neg h,if_neg]
    rintro⟨e2,_⟩
    cases e2
    exact h rfl
theorem qq0 (L:BL) (i:Nat) (h:0<digN (L.drop i)):Qm (L.drop i)=if atB (· == 46) L (i+digN (L.drop i))=true∧atB qf L (i+digN (L.drop i)+1)=true then
  (4,digN (L.drop i)+1+digN (L.drop (i+digN (L.drop i)+1))+qcv (L.drop (i+digN (L.drop i)+1+digN (L.drop (i+digN (L.drop i)+1))))) else (3,digN (L.drop i)):=by
 obtain⟨n,hn⟩:∃ n,digN (L.drop i)=n:=⟨_,rfl⟩
 rw[hn] at h
 simp only[hn,is_some]
 unfold Qm
 rw[hn,List.drop_drop,List.getElem?_drop,← Nat.add_assoc]
 cases ha:atB qf L (i+n+1) with
 | true =>
  have h2:=(JY ha).2
  by_cases hc:L[i+n]?=some 46
  · rw[if_neg (fun h3=>by rcases h3 with h3 | h3 | h3<;>first | omega | exact h3 hc),if_pos ⟨hc,rfl⟩,List.drop_drop]
    simp only[Nat.add_assoc]
  · rw[if_pos (.inr (.inl hc)),if_neg (fun e=>hc e.1)]
 | false =>
  rw[if_pos (.inr (.inr (qan ha))),if_neg (fun e=>by simp at e)]
def qda (L:BL) (i:Nat):Value:=.tuple #[.int .i64 (Qm (L.drop i)).1,.int .i64 ((i+(Qm (L.drop i)).2:Nat):Int)]
theorem qbc {p:UInt8→Bool} {L:BL} {k:Nat} (h:atB p L k=true):k<L.length:=by
 unfold atB at h
 split at h
 · rename_i c hc;exact(List.getElem?_eq_some_iff.1 hc).1
 · cases h
theorem qoe (s:ByteArray) (i:Nat) (w:World) (hs:s.size≤999990) (hi:i≤s.size) (h0:0<digN (s.data.toList.drop i)) :
  Calls Tryz.prog 128 #[.string s,.int .i64 (i:Int)] w fun e w'=>e = .returned (qda s.data.toList i)∧w'=w:=by
 have hsz:s.data.toList.length=s.size:=rfl
 have hnum:=qq0 s.data.toList i h0
 obtain⟨a,ha⟩:∃ a,i+digN (s.data.toList.drop i)=a:=⟨_,rfl⟩
 have hal:a≤s.size:=by have:=qZ s.data.toList i;omega
 obtain⟨b,hb⟩:∃ b,a+1+digN (s.data.toList.drop (a+1))=b:=⟨_,rfl⟩
 have hbl:b≤s.size+1:=by have:=qZ s.data.toList (a+1);omega
 rw[ha,hb] at hnum
 have HD:=zxi (fun k (hk:k≤1000000) w=>qaN s k w zxo zxo)
 have HI:=zxi (fun k x (hk:k≤1000000) w=>ris s k x w zxo zxo)
 have HSZ:=zxi hsz
 have HN:=zxi hnum
 have HA:=zxi ha
 have HB:=zxi hb
 clear hsz hnum ha hb
 go_enter Tryz.func128,Tryz.ntmps128
 go_wp2_with fail
 go_loopw [1] (fun iv wx=>∃ k:Nat,k≤a∧iv = .int .i64 k∧k+digN (s.data.toList.drop k)=a∧wx=w) (fun iv _=>a-(intOf iv).toNat)
 case atStart=>exact⟨i,by have:=HA.out;omega,by go_num,HA.out,rfl⟩
 case round =>
  obtain⟨k,hk,rfl,hka,rfl⟩:=hrel
  cases hat:atB qf s.data.toList k with
  | true =>
   have h1:=(JY hat).2
   have h2:=(JY hat).1
   have HC:=zxi (HD.out k zxo)
   rw[hat] at HC
   have HK:=zxi (show k+1+digN (s.data.toList.drop (k+1))=a by omega)
   have hk1:k+1≤a:=by omega
   clear hat hka h1 h2
   go_wp2_with fail
   refine(HC.out _).mono ?_
   exact qo6
  | false =>
   have h1:=qan hat
   obtain rfl:k=a:=by omega
   have HCk:=zxi (HD.out k zxo)
   rw[hat] at HCk
   clear hat hka h1 hk
   have HP:=zxi (HI.out k 46 zxo)
   have HC2:=zxi (HD.out (k+1) zxo)
   cases h46:atB (· == 46) s.data.toList k with
   | false =>
    rw[h46] at HP
    have HV:=zxi (show Qm (s.data.toList.drop i)=(3,digN (s.data.toList.drop i)) by rw[HN.out,h46,if_neg zxs])
    clear h46
    go_wp2_with fail
    refine(HCk.out _).mono ?_
    rintro e w2 ⟨rfl,rfl⟩
    go_wp2_with fail
    refine(HP.out _).mono ?_
    exact qqZ
   | true =>
    rw[h46] at HP
    cases hd1:atB qf s.data.toList (k+1) with
    | false =>
     rw[hd1] at HC2
     have HV:=zxi (show Qm (s.data.toList.drop i)=(3,digN (s.data.toList.drop i)) by rw[HN.out,hd1,if_neg zxs])
     clear h46 hd1
     go_wp2_with fail
     refine(HCk.out _).mono ?_
     rintro e w2 ⟨rfl,rfl⟩
     go_wp2_with fail
     refine(HP.out _).mono ?_
     rintro e w2 ⟨rfl,rfl⟩
     go_wp2_with fail
     refine(HC2.out _).mono ?_
     exact qqZ
    | true =>
     rw[hd1] at HC2
     have HV0:=zxi (show Qm (s.data.toList.drop i)=(4,digN (s.data.toList.drop i)+1+digN (s.data.toList.drop (k+1))+qcv (s.data.toList.drop b)) by rw[HN.out,h46,hd1,if_pos ⟨rfl,rfl⟩])
     clear h46 hd1
     go_wp2_with fail
     refine(HCk.out _).mono ?_
     rintro e w2 ⟨rfl,rfl⟩
     go_wp2_with fail
     refine(HP.out _).mono ?_
     rintro e w2 ⟨rfl,rfl⟩
     go_wp2_with fail
     refine(HC2.out _).mono ?_
     rintro e w2 ⟨rfl,rfl⟩
     go_wp2_with fail
     go_loopw [1] (fun iv wx=>∃ k:Nat,k≤b∧iv = .int .i64 k∧k+digN (s.data.toList.drop k)=b∧wx=w2) (fun iv _=>b-(intOf iv).toNat)
     case atStart=>exact⟨k+1,by have:=HB.out;omega,by go_num,HB.out,rfl⟩
     case round =>
      obtain⟨j,hk,rfl,hka,rfl⟩:=hrel
      cases hat:atB qf s.data.toList j with
      | true =>
       have h1:=(JY hat).2
       have h2:=(JY hat).1
       have HC:=zxi (HD.out j zxo)
       rw[hat] at HC
       have HK:=zxi (show j+1+digN (s.data.toList.drop (j+1))=b by omega)
       have hk1:j+1≤b:=by omega
       clear hat hka h1 h2
       go_wp2_with fail
       refine(HC.out _).mono ?_
       rintro e w2 ⟨rfl,rfl⟩
       go_wp2_with fail
       go_roundw
       case rel=>exact⟨j+1,hk1,by go_num,HK.out,trivial⟩
       case measure=>simp only[intOf];omega
      | false =>
       have h1:=qan hat
       obtain rfl:j=b:=by omega
       have HCj:=zxi (HD.out j zxo)
       rw[hat] at HCj
       clear hat hka h1 hk
       have HX:=zxi (qqu s.data.toList j)
       have HSG:=zxi (qva s.data.toList (j+1))
       obtain⟨g,hg⟩:∃ g,sgN (s.data.toList.drop (j+1))=g:=⟨_,rfl⟩
       rw[hg] at HX HSG
       have H43:=zxi (HI.out (j+1) 43 zxo)
       have H45:=zxi (HI.out (j+1) 45 zxo)
       have H101:=zxi (HI.out j 101 zxo)
       clear hg
       cases h43:atB (· == 43) s.data.toList (j+1) with
       | true =>
        rw[h43] at H43
        obtain rfl:g=1:=by have:=HSG.out;simpa[h43] using this
        have HE:=zxi (HD.out (j+1+1) zxo)
        clear HSG h43
        cases h101:atB (· == 101) s.data.toList j with
        | false =>
         rw[h101] at H101
         have HV:=zxi (And.intro HV0.out (show qcv (s.data.toList.drop j)=0 by rw[HX.out,h101,if_neg zxs]))
         clear h101
         go_wp2_with fail
         refine(HCj.out _).mono ?_
         rintro e w2 ⟨rfl,rfl⟩
         go_wp2_with fail
         refine(H43.out _).mono ?_
         exact qr6
        | true =>
         rw[h101] at H101
         cases hde:atB qf s.data.toList (j+1+1) with
         | false =>
          rw[hde] at HE
          have HV:=zxi (And.intro HV0.out (show qcv (s.data.toList.drop j)=0 by rw[HX.out,hde,if_neg zxs]))
          clear h101 hde
          go_wp2_with fail
          refine(HCj.out _).mono ?_
          rintro e w2 ⟨rfl,rfl⟩
          go_wp2_with fail
          refine(H43.out _).mono ?_
          exact qtO
         | true =>
          rw[hde] at HE
          have HV:=zxi (And.intro HV0.out (show qcv (s.data.toList.drop j)=1+1+digN (s.data.toList.drop (j+1+1)) by rw[HX.out,h101,hde,if_pos ⟨rfl,rfl⟩]))
          have hjl:=qbc hde
          have hdl:=qZ s.data.toList (j+1+1)
          rw[HSZ.out] at hjl hdl
          clear h101 hde
          obtain⟨z,hz⟩:∃ z,j+1+1+digN (s.data.toList.drop (j+1+1))=z:=⟨_,rfl⟩
          have HZ:=zxi hz
          have hzl:z≤s.size:=by omega
          clear hz hdl
          go_wp2_with fail
          refine(HCj.out _).mono ?_
          rintro e w2 ⟨rfl,rfl⟩
          go_wp2_with fail
          refine(H43.out _).mono ?_
          exact qp1
       | false =>
        rw[h43] at H43
        cases h45:atB (· == 45) s.data.toList (j+1) with
        | true =>
         rw[h45] at H45
         obtain rfl:g=1:=by have:=HSG.out;simpa[h43,h45] using this
         have HE:=zxi (HD.out (j+1+1) zxo)
         clear HSG h43 h45
         cases h101:atB (· == 101) s.data.toList j with
         | false =>exact qtM
         | true =>
          rw[h101] at H101
          cases hde:atB qf s.data.toList (j+1+1) with
          | false =>exact qty
          | true =>
           rw[hde] at HE
           have HV:=zxi (And.intro HV0.out (show qcv (s.data.toList.drop j)=1+1+digN (s.data.toList.drop (j+1+1)) by rw[HX.out,h101,hde,if_pos ⟨rfl,rfl⟩]))
           have hjl:=qbc hde
           have hdl:=qZ s.data.toList (j+1+1)
           rw[HSZ.out] at hjl hdl
           clear h101 hde
           obtain⟨z,hz⟩:∃ z,j+1+1+digN (s.data.toList.drop (j+1+1))=z:=⟨_,rfl⟩
           have HZ:=zxi hz
           have hzl:z≤s.size:=by omega
           clear hz hdl
           go_wp2_with fail
           refine(HCj.out _).mono ?_
           rintro e w2 ⟨rfl,rfl⟩
           go_wp2_with fail
           refine(H43.out _).mono ?_
           rintro e w2 ⟨rfl,rfl⟩
           go_wp2_with fail
           refine(H45.out _).mono ?_
           exact qp1
        | false =>
         rw[h45] at H45
         obtain rfl:g=0:=by have:=HSG.out;simpa[h43,h45] using this
         have HE:=zxi (HD.out (j+1+0) zxo)
         clear HSG h43 h45
         cases h101:atB (· == 101) s.data.toList j with
         | false =>exact qtM
         | true =>
          rw[h101] at H101
          cases hde:atB qf s.data.toList (j+1+0) with
          | false =>exact qty
          | true =>
           rw[hde] at HE
           have HV:=zxi (And.intro HV0.out (show qcv (s.data.toList.drop j)=1+0+digN (s.data.toList.drop (j+1+0)) by rw[HX.out,h101,hde,if_pos ⟨rfl,rfl⟩]))
           have hjl:=qbc hde
           have hdl:=qZ s.data.toList (j+1+0)
           rw[HSZ.out] at hjl hdl
           clear h101 hde
           obtain⟨z,hz⟩:∃ z,j+1+0+digN (s.data.toList.drop (j+1+0))=z:=⟨_,rfl⟩
           have HZ:=zxi hz
           have hzl:z≤s.size:=by omega
           clear hz hdl
           go_wp2_with fail
           refine(HCj.out _).mono ?_
           rintro e w2 ⟨rfl,rfl⟩
           go_wp2_with fail
           refine(H43.out _).mono ?_
           rintro e w2 ⟨rfl,rfl⟩
           go_wp2_with fail
           refine(H45.out _).mono ?_
           rintro e w2 ⟨rfl,rfl⟩
           go_wp2_with fail
           refine(H101.out _).mono ?_
           rintro e w2 ⟨rfl,rfl⟩
           go_wp2_with fail
           refine(HE.out _).mono ?_
           rintro e w2 ⟨rfl,rfl⟩
           go_wp2_with fail
           go_loopw [6] (fun iv wx=>∃ k:Nat,k≤z∧iv = .int .i64 k∧k+digN (s.data.toList.drop k)=z∧wx=w2) (fun iv _=>z-(intOf iv).toNat)
           case atStart=>exact⟨j+1+0,by have:=HZ.out;omega,by go_num,HZ.out,rfl⟩
           case round =>exact qwC
def qcq (k:Nat) (t:BL):Bool:=if k=1∨k=3∨k=4∨k=5 then true else if k=2 then jp endW t else if k=6 then decide (t=[41])||decide (t=[125]) else false
theorem quW (k:Nat) (t:ByteArray) (a b:Nat) (w:World) :
  Calls Tryz.prog 127 #[qcm k t a b] w fun e w'=>e = .returned (.bool (qcq k t.data.toList))∧Below w.heap.size w w':=by
 obtain⟨a0,a1,a2,a3,az,al⟩:=qq (T:=83) (heap_alloc_new w (.cells #[.int .i64 (k:Int),.string t,.int .i64 (a:Int),.int .i64 (b:Int)] 83))
 have HB0:=zxi ((Below.refl w.heap.size w).alloc zxn (.cells #[.int .i64 (k:Int),.string t,.int .i64 (a:Int),.int .i64 (b:Int)] 83))
 unfold qcm
 by_cases k1:k=1
 · subst k1
   exact qkd
 have b1:((k:Int) == 1)=false:=beq_eq_false_iff_ne.2 zxo
 by_cases k3:k=3
 · subst k3
   exact qkd
 have b3:((k:Int) == 3)=false:=beq_eq_false_iff_ne.2 zxo
 by_cases k4:k=4
 · subst k4
   exact qkd
 have b4:((k:Int) == 4)=false:=beq_eq_false_iff_ne.2 zxo
 by_cases k5:k=5
 · subst k5
   exact qkd
 have b5:((k:Int) == 5)=false:=beq_eq_false_iff_ne.2 zxo
 have hv0:qcq k t.data.toList=if k=2 then jp endW t.data.toList else if k=6 then decide (t.data.toList=[41])||decide (t.data.toList=[125]) else false:=by
  unfold qcq;rw[if_neg zxo]
 by_cases k2:k=2
 · subst k2
   rw[if_pos rfl] at hv0
   have HV:=zxi hv0
   have HC:=zxi (qwH endW (w.heap.size+1) 0 9 t ((w.alloc (.cells #[.int .i64 2,.string t,.int .i64 (a:Int),.int .i64 (b:Int)] 83)).alloc (.cells (endW.map fun l=>Value.string ⟨l.toArray⟩).toArray 9)) zxd (by intro j x hx;have h9:=Js endW (w.alloc (.cells #[.int .i64 2,.string t,.int .i64 (a:Int),.int .i64 (b:Int)] 83)) j x hx;rwa [World.size_alloc] at h9))
   have HB1:=zxi (HB0.out.alloc HB0.out.size (.cells (endW.map fun l=>Value.string ⟨l.toArray⟩).toArray 9))
   clear hv0 HB0
   go_enter Tryz.func127,Tryz.ntmps127
   go_wp2_with (first | (go_at_call 75;refine HC.out.mono ?_;rintro e w1 ⟨rfl,q,rfl⟩))
   go_ret
   exact⟨qi HV.out.symm,qQ HB1.out q⟩
 have b2:((k:Int) == 2)=false:=beq_eq_false_iff_ne.2 zxo
 rw[if_neg k2] at hv0
 by_cases k6:k=6
 case neg =>
  have b6:((k:Int) == 6)=false:=beq_eq_false_iff_ne.2 zxo
  rw[if_neg k6] at hv0
  have HV:=zxi hv0
  clear hv0
  exact qlk
 rw[if_pos k6] at hv0
 have b6:((k:Int) == 6)=true:=beq_iff_eq.2 zxo
 clear k1 k2 k3 k4 k5 k6
 by_cases t1:t.data.toList=[41]
 · have s1:t.toList=[41]:=(JI t _).2 t1
   have s2:(t.toList == [41])=true:=by rw[s1];rfl
   have HV:=zxi (show qcq k t.data.toList=true by rw[hv0,decide_eq_true t1];rfl)
   clear hv0 t1
   exact qlk
 have s1:¬ t.toList=[41]:=fun e=>t1 ((JI t _).1 e)
 have s2:(t.toList == [41])=false:=by simpa using s1
 by_cases t2:t.data.toList=[125]
 · have s3:t.toList=[125]:=(JI t _).2 t2
   have s4:(t.toList == [125])=true:=by rw[s3];rfl
   have HV:=zxi (show qcq k t.data.toList=true by rw[hv0,decide_eq_true t2];simp)
   clear hv0 t1 t2
   exact qlk
 · have s3:¬ t.toList=[125]:=fun e=>t2 ((JI t _).1 e)
   have s4:(t.toList == [125])=false:=by simpa using s3
   have HV:=zxi (show qcq k t.data.toList=false by rw[hv0,decide_eq_false t1,decide_eq_false t2];rfl)
   clear hv0 t1 t2
   exact qlk
theorem qsC (w:World):Calls Tryz.prog 132 #[] w fun e w'=>e = .returned (.slice (some ⟨w.heap.size,0,none⟩) 23 23)∧w'=w.alloc (.cells ((marks2++marks1).map fun l=>Value.string ⟨l.toArray⟩).toArray 9):=by
 go_enter Tryz.func132,Tryz.ntmps132
 exact qdi
end Go.Proofs.YtacdfjlncfidgaaGreatDoor
