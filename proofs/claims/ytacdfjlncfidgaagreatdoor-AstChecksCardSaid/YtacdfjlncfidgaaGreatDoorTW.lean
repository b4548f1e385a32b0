/- A part of what the claim leans on. -/
import Derived.Test.YtacdfjlncfidgaaGreatDoorQS
import Derived.Test.YtacdfjlncfidgaaGreatDoorTZ
import Derived.Test.YtacdfjlncfidgaaGreatDoorTO
namespace Go.Proofs.YtacdfjlncfidgaaGreatDoor
open Go.RowKit
set_option linter.unusedVariables false
set_option linter.unusedSimpArgs false
set_option maxRecDepth 100000
set_option maxHeartbeats 32000000
theorem qjW (n:Nat):(qL n).length≤12:=by
 unfold qL
 split
 · decide
 · split<;>decide
theorem qjC (n:Nat):(qL n).contains 1=false:=by
 unfold qL
 split
 · decide
 · split<;>decide
theorem qpo {w:World} {p:Addr} {v:Value} (h:w.cell? p=some v):p.block<w.heap.size:=by
 rcases Nat.lt_or_ge p.block w.heap.size with h1 | h1
 · exact h1
 · rw[World.cell?,Array.getElem?_eq_none h1] at h;cases h
theorem qm {w w':World} {p:Addr} {v:Value} (h:w.cell? p=some v) (hb:Below w.heap.size w w'):w'.cell? p=some v:=(hb.cell (qpo h)).trans h
theorem qc8 {nm:BL→Bool} {tok:BL→Int→Bool} {x:Tree} {l:List Tree} {row:List Nat} {rows:List (List Nat)}:JB nm tok (x::l) (row::rows)=(qbK nm tok row x&&JB nm tok l rows):=by rw[JB,qes]
theorem rIs (HT:qoR):∀ (t:Tree) (r:RN) (need:Nat) (w:World),NodeM w w.heap.size t r→qY t≤3000→need≤2000 →
  Calls Tryz.prog 46 #[r.val,.int .i64 need] w fun e w'=>e = .returned (.bool (isR qc qw t need))∧Below w.heap.size w w':=by
 refine QI (fun k f en a n l ih r need w hm hc hneed=>?_)
 obtain⟨A,cap,rfl,hk⟩:=hm.open2
 have hlen:=jP hc
 rw[qT]
 obtain⟨m,hm1⟩:∃ m,(qJ need).1=m:=⟨_,rfl⟩
 obtain⟨hd,hd1⟩:∃ hd,(qJ need).2.1=hd:=⟨_,rfl⟩
 obtain⟨jz,hl1⟩:∃ jz,(qJ need).2.2=jz:=⟨_,rfl⟩
 rw[hm1,hd1,hl1]
 obtain⟨ks,hks⟩:∃ ks,qL m=ks:=⟨_,rfl⟩
 obtain⟨kc,hkc⟩:∃ kc,ks.contains k=kc:=⟨_,rfl⟩
 have HKC:=zxi hkc
 obtain⟨nr,hnr⟩:∃ nr,qK qc qw (.mk k f en a n l) m=nr:=⟨_,rfl⟩
 obtain⟨b3,hb3⟩:∃ b3,((decide (k=31)&&decide (jV n<jz))||(decide (k=30)&&decide (6<jz))||(decide (k=28)&&hd))=b3:=⟨_,rfl⟩
 obtain⟨b4,hb4⟩:∃ b4,(decide (m=18)&&decide (k=32) && !decide (n=QC) && !decide (n=Qz))=b4:=⟨_,rfl⟩
 have hpre:qu5 qc qw (.mk k f en a n l) m hd jz=(kc&&nr && !b3 && !b4):=by rw[← hkc,← hks,← hnr,← hb3,← hb4];rfl
 obtain⟨rows,may,hrow⟩:∃ rows may,jh (.mk k f en a n l) m hd=(rows,may):=⟨_,_,rfl⟩
 rw[qpt,hpre,hrow]
 have HL31:=zxi (show nr=true→k=31→0<jV n from fun h e=>by
  subst e
  rw[← hnr] at h
  exact of_decide_eq_true h)
 have HSM:=zxi (show k≠1→∀ row∈rows,∀ d∈row,d≤2000 from fun h1 row hr d hdd=>qge (.mk k f en a n l) m hd row (by rw[hrow];exact hr) h1 d hdd)
 have HSH0:=zxi (show k≠1→∀ row∈rows,row.length≤4 from fun h1 row hr=>qf9 (.mk k f en a n l) m hd row (by rw[hrow];exact hr) h1)
 have HRD:=zxi (show k≠1→qX (.mk k f en a n l) m hd=(rows,may) from fun h1=>by rw[← hrow];exact if_neg h1)
 have HK1:=zxi (show ks.contains 1=false by rw[← hks];exact qjC m)
 have hkl:ks.length≤12:=hks ▸ qjW m
 have HX:=zxi (heap_alloc_new w (qd ⟨k,f,en,a,qn n,A,l.length,cap⟩))
 have HB:=zxi ((Below.refl w.heap.size w).alloc zxn (qd ⟨k,f,en,a,qn n,A,l.length,cap⟩))
 have HM:=zxi (hm.boxed zxn (qd ⟨k,f,en,a,qn n,A,l.length,cap⟩))
 have HKD:=zxi (hk.after zxn HB.out)
 have HI:=zxi (fun x hx rx d W hm hd=>ih x hx rx d W hm (Jy hc hx) hd)
 have HC:=zxi hc
 obtain⟨W0,hW0⟩:∃ W0,w.alloc (qd ⟨k,f,en,a,qn n,A,l.length,cap⟩)=W0:=⟨_,rfl⟩
 rw[hW0] at HX HB HM HKD
 have HNM:=zxi (fun W (hb:Below W0.heap.size W0 W)=>qu1 HT (.mk k f en a n l) ⟨k,f,en,a,qn n,A,l.length,cap⟩ m W (HM.out.after zxn hb) hc)
 have HRO:=zxi (fun W (hb:Below W0.heap.size W0 W) hl=>qwD (.mk k f en a n l) ⟨k,f,en,a,qn n,A,l.length,cap⟩ m hd W (HM.out.after zxn hb) hc hl)
 have HLV:=zxi (fun W=>qiJ (qn n) W)
 rw[qj] at HLV
 have HN:=zxi (jr n)
 rw[hnr] at HNM
 clear hm hk ih hc hrow hpre hnr hkc
 unfold RN.val at HNM HRO ⊢
 go_enter Tryz.func46,Tryz.ntmps46
 go_upto_if 16 with fail
 rw[show w.alloc (.cells #[.int .i64 k,.int .i64 f,.int .i64 en,.int .i64 a,.string (qn n),.slice A l.length cap] 24)=W0 from hW0]
 go_cut [1,5] from 15 (fun s1 s5 W=>s1 = .int .i64 m∧s5 = .bool (decide (1000≤need))∧W=W0)
 case first =>
  by_cases h1:1000≤need
  · have b1:decide ((1000:Int)≤(need:Int))=true:=decide_eq_true zxo
    have hm2:(need:Int)-1000=m:=by rw[← hm1];simp only[qJ,if_pos h1];omega
    go_wp2_with fail
    go_meet
    case rel=>exact⟨by go_num,by rw[decide_eq_true h1],rfl⟩
  · have b1:decide ((1000:Int)≤(need:Int))=false:=decide_eq_false zxo
    have hm2:need=m:=by rw[← hm1];simp only[qJ,if_neg h1]
    go_wp2_with fail
    go_meet
    case rel=>exact⟨by first | rfl | rw[hm2],by rw[decide_eq_false h1],rfl⟩
 case rest =>
 obtain⟨rfl,rfl,rfl⟩:=hcut
 have hmn:m≤2000:=by rw[← hm1];simp only[qJ];split<;>omega
 go_upto_if 20 with fail
 go_cut [5,6] from 15 (fun s5 s6 W=>s5 = .bool hd∧s6 = .int .i64 jz∧W=wc)
 case first =>
  have hd2:hd=(decide (1000≤need)||decide (201≤m)):=by rw[← hd1,← hm1];rfl
  have hl2:jz=if 201≤m then m-200 else if 101≤m then m-100 else 0:=by rw[← hl1,← hm1];rfl
  by_cases h2:201≤m
  · have b2:decide ((201:Int)≤(m:Int))=true:=decide_eq_true zxo
    rw[if_pos h2] at hl2
    have hl3:(m:Int)-201+1=jz:=by omega
    go_wp2_with fail
    go_meet
    case rel=>exact⟨by rw[hd2,decide_eq_true h2,Bool.or_true],by go_num,rfl⟩
  · have b2:decide ((201:Int)≤(m:Int))=false:=decide_eq_false zxo
    rw[if_neg h2] at hl2
    by_cases h3:101≤m
    · have b3:decide ((101:Int)≤(m:Int))=true:=decide_eq_true zxo
      rw[if_pos h3] at hl2
      have hl3:(m:Int)-101+1=jz:=by omega
      go_wp2_with fail
      go_meet
      case rel=>exact⟨by rw[hd2,decide_eq_false h2,Bool.or_false],by go_num,rfl⟩
    · have b3:decide ((101:Int)≤(m:Int))=false:=decide_eq_false zxo
      rw[if_neg h3] at hl2
      go_wp2_with fail
      go_meet
      case rel=>exact⟨by rw[hd2,decide_eq_false h2,Bool.or_false],by rw[hl2];rfl,rfl⟩
 case rest =>
 obtain⟨rfl,rfl,rfl⟩:=hcut
 clear hm1 hd1 hl1
 have HKI:=zxi (fun W=>qur (m:Nat) zxo W)
 simp only[Int.toNat_natCast] at HKI
 rw[hks] at HKI
 go_wp2_with (go_at_call 63;refine(HKI.out _).mono ?_;rintro e w1 ⟨rfl,hg1,hb1⟩;have HG1:=zxi hg1;have HB1:=zxi hb1;clear hg1 hb1)
 go_loopw [8,9] (fun b i wr=>∃ (j:Nat) (bb:Bool),j≤ks.length∧b = .bool bb∧i = .int .i64 j∧ks.contains k=(bb||(ks.drop j).contains k)∧wr.heap[w.heap.size]?=some (qd ⟨k,f,en,a,qn n,A,l.length,cap⟩)∧wr.heap[wc.heap.size]?=some (.cells (ks.map (Value.int .i64)).toArray 3 (0,0))∧Below wc.heap.size wc wr) (fun _ i _=>ks.length-(intOf i).toNat)
 case atStart=>exact⟨0,false,Nat.zero_le _,rfl,rfl,rfl,qg HX.out HB1.out,HG1.out,HB1.out⟩
 case round =>
  obtain⟨j,bb,hj,rfl,rfl,hv,hbx,hgx,hb⟩:=hrel
  have HV:=zxi hv
  have HX2:=zxi hbx
  have HG2:=zxi hgx
  have HBR:=zxi hb
  obtain⟨e0,e1,e2,e3,e4,e5,ez,el⟩:=qD hbx
  clear hv hbx hgx hb
  by_cases hlt:j<ks.length
  · obtain⟨d,hd⟩:∃ d,ks[j]?=some d:=⟨_,List.getElem?_eq_getElem hlt⟩
    have hc1:wr.cell? ⟨wc.heap.size,j,none⟩=some (.int .i64 d):=by rw[cell_of_row _ _ _ _ _ _ HG2.out,List.getElem?_toArray,List.getElem?_map,hd];rfl
    have hgl:=(Array.getElem?_eq_some_iff.1 HG2.out).1
    have HC1:=zxi (And.intro hc1 hgl)
    have HD:=zxi hd
    clear hc1 hd hgl
    go_wp2_with fail
    cases bb with
    | true =>
     have HKP:=zxi (fun W' (hBW:Below wr.heap.size wr W')=>(show(zE wr w.heap.size ⟨k,f,en,a,qn n,A,l.length,cap⟩ (fun w'=>w'.cell? ⟨wc.heap.size,j,none⟩=some (.int .i64 d))) W' from by obtain⟨q0,q1,q2,q3,q4,q5,q6⟩:=qh HX2.out hBW;exact⟨q0,q1,q2,q3,q4,q5,q6,(hBW.cell HC1.out.2).trans HC1.out.1⟩))
     refine zHD HKP fun hHeld=>?_
     refine zTk 0 (h:=?_)
     refine zTk 1 (h:=?_)
     refine zTn 2 (h:=?_)
     refine zTn 3 (h:=?_)
     refine zTn 4 (h:=?_)
     refine zTn 5 (h:=?_)
     refine zTn 6 (h:=?_)
     refine zTn 7 (h:=?_)
     refine zTn 8 (h:=?_)
     refine zTk 9 (h:=?_)
     refine zTk 10 (h:=?_)
     refine wpAnyH_done (by kernel_rfl) ?_ _
     go_wp2_with fail
     go_roundw
     case rel=>exact⟨j+1,true,by omega,rfl,by go_num,by rw[HV.out];rfl,qg HX2.out zxr,qg HG2.out zxr,zT HBR.out zxr⟩
     case measure=>simp only[intOf];omega
    | false =>
     have HKP:=zxi (fun W' (hBW:Below wr.heap.size wr W')=>(show(zE wr w.heap.size ⟨k,f,en,a,qn n,A,l.length,cap⟩ (fun w'=>w'.cell? ⟨wc.heap.size,j,none⟩=some (.int .i64 d))) W' from by obtain⟨q0,q1,q2,q3,q4,q5,q6⟩:=qh HX2.out hBW;exact⟨q0,q1,q2,q3,q4,q5,q6,(hBW.cell HC1.out.2).trans HC1.out.1⟩))
     refine zHD HKP fun hHeld=>?_
     refine zTk 0 (h:=?_)
     refine zTk 1 (h:=?_)
     refine zTk 2 (h:=?_)
     refine zTk 3 (h:=?_)
     refine zTk 4 (h:=?_)
     refine zTk 5 (h:=?_)
     refine zTk 6 (h:=?_)
     refine zTk 7 (h:=?_)
     refine zTk 8 (h:=?_)
     refine zTk 9 (h:=?_)
     refine zTk 10 (h:=?_)
     refine wpAnyH_done (by kernel_rfl) ?_ _
     go_wp2_with fail
     go_roundw
     case rel=>exact⟨j+1,(d == k),by omega,rfl,by go_num,by rw[HV.out,jk HD.out,Bool.false_or,List.contains_cons,BEq.comm],qg HX2.out zxr,qg HG2.out zxr,zT HBR.out zxr⟩
     case measure=>simp only[intOf];omega
  · have hv2:ks.contains k=bb:=by rw[HV.out,List.drop_of_length_le zxo];simp
    cases bb with
    | false =>
     have hkf:kc=false:=by rw[← HKC.out,hv2]
     subst hkf
     clear hv2
     go_wp2_with fail
     go_ret
     exact⟨qi zxs,qa HB.out HBR.out⟩
    | true =>
     have k1:k≠1:=fun e=>by rw[e,HK1.out] at hv2;cases hv2
     have hkf:kc=true:=by rw[← HKC.out,hv2]
     subst hkf
     have HSM2:=zxi (HSM.out k1)
     have HRD2:=zxi (HRD.out k1)
     have HSH:=zxi (HSH0.out k1)
     clear hv2 k1 HSM HRD
     cases nr with
     | false =>
      go_wp2_with (go_at_call 64;go_must (refine(HNM.out _ HBR.out).mono ?_);rintro e w2 ⟨rfl,hb2⟩)
      go_ret
      exact⟨qi zxs,qa HB.out (zT HBR.out hb2)⟩
     | true =>
      go_upto_region 19 with(go_at_call 64;refine(HNM.out _ HBR.out).mono ?_;rintro e w2 ⟨rfl,hb2⟩)
      have HB2:=zxi (zT HBR.out hb2)
      have HX3:=zxi (qg HX2.out hb2)
      have hlev:=HL31.out (by first | rfl | trivial)
      clear hb2 HL31 HKC
      obtain⟨e0,e1,e2,e3,e4,e5,ez,el⟩:=qD HX3.out
      go_cut [81] from 15 (fun s81 W=>s81 = .bool b3∧Below w2.heap.size w2 W)
      case first =>
       by_cases h31:k=31
       · have b31:(k == 31)=true:=beq_iff_eq.2 h31
         have b30:(k == 30)=false:=beq_eq_false_iff_ne.2 zxo
         have b28:(k == 28)=false:=beq_eq_false_iff_ne.2 zxo
         rw[decide_eq_true h31,decide_eq_false (show ¬ k=30 by omega),decide_eq_false (show ¬ k=28 by omega),Bool.true_and,Bool.false_and,Bool.false_and,Bool.or_false,Bool.or_false] at hb3
         cases b3 with
         | true =>
          have hlt3:jV n<jz:=of_decide_eq_true hb3
          have bl:decide ((jV n:Int)<(jz:Int))=true:=decide_eq_true zxo
          clear hb3 h31 hlev
          go_wp2_with (go_at_call 62;refine(HLV.out _).mono ?_;rintro e w3 ⟨rfl,hb3⟩)
          go_meet
          case rel=>exact⟨rfl,hb3⟩
         | false =>
          have hlt3:¬ jV n<jz:=of_decide_eq_false hb3
          have bl:decide ((jV n:Int)<(jz:Int))=false:=decide_eq_false zxo
          clear hb3 h31 hlev
          go_wp2_with (go_at_call 62;refine(HLV.out _).mono ?_;rintro e w3 ⟨rfl,hb3⟩;obtain⟨g0,g1,g2,g3,g4,g5,gz,gl⟩:=qD (qg HX3.out hb3))
          go_meet
          case rel=>exact⟨rfl,hb3⟩
       have b31:(k == 31)=false:=beq_eq_false_iff_ne.2 h31
       rw[decide_eq_false h31,Bool.false_and,Bool.false_or] at hb3
       clear h31 hlev
       by_cases h30:k=30
       · have b30:(k == 30)=true:=beq_iff_eq.2 h30
         have b28:(k == 28)=false:=beq_eq_false_iff_ne.2 zxo
         rw[decide_eq_true h30,decide_eq_false (show ¬ k=28 by omega),Bool.true_and,Bool.false_and,Bool.or_false] at hb3
         clear h30
         cases b3 with
         | true =>
          have hlt3:6<jz:=of_decide_eq_true hb3
          have bl:decide ((6:Int)<(jz:Int))=true:=decide_eq_true zxo
          clear hb3
          exact qdV
         | false =>
          have hlt3:¬ 6<jz:=of_decide_eq_false hb3
          have bl:decide ((6:Int)<(jz:Int))=false:=decide_eq_false zxo
          clear hb3
          exact qdV
       have b30:(k == 30)=false:=beq_eq_false_iff_ne.2 h30
       rw[decide_eq_false h30,Bool.false_and,Bool.false_or] at hb3
       clear h30
       by_cases h28:k=28
       · have b28:(k == 28)=true:=beq_iff_eq.2 h28
         rw[decide_eq_true h28,Bool.true_and] at hb3
         clear h28
         subst hb3
         go_wp2_with fail
         all_goals (
          go_meet
          case rel=>exact⟨rfl,zR _⟩)
       have b28:(k == 28)=false:=beq_eq_false_iff_ne.2 h28
       rw[decide_eq_false h28,Bool.false_and] at hb3
       clear h28
       subst hb3
       exact qdV
      case rest =>
      clear hb3
      obtain⟨rfl,hbx3⟩:=hcut
      cases b3 with
      | true =>
       go_wp2_with fail
       go_ret
       exact⟨qi zxs,qa HB.out (zT HB2.out hbx3)⟩
      | false =>
      have HB3:=zxi (zT HB2.out hbx3)
      have HX4:=zxi (qg HX3.out hbx3)
      clear hbx3 e0 e1 e2 e3 e4 e5 ez el
      obtain⟨e0,e1,e2,e3,e4,e5,ez,el⟩:=qD HX4.out
      go_upto_region 21 with fail
      go_cut [98] from 15 (fun s98 W=>s98 = .bool b4∧Below wc.heap.size wc W)
      case first =>
       by_cases h18:m=18
       · have b18:((m:Int) == 18)=true:=beq_iff_eq.2 zxo
         by_cases h32:k=32
         · have b32:(k == 32)=true:=beq_iff_eq.2 h32
           rw[decide_eq_true h18,decide_eq_true h32,Bool.true_and,Bool.true_and] at hb4
           by_cases hp:n=QC
           · have e6:(qn n).toList=[112,114,105,110,116]:=by rw[HN.out];exact hp
             have e7:((qn n).toList == [112,114,105,110,116])=true:=by rw[e6];rfl
             have e8:((qn n).toList != [112,114,105,110,116])=false:=by simp only[bne,e7];rfl
             rw[decide_eq_true hp] at hb4
             clear hp h18 h32
             subst hb4
             exact qdV
           · have e6:¬ (qn n).toList=[112,114,105,110,116]:=by rw[HN.out];exact hp
             have e7:((qn n).toList == [112,114,105,110,116])=false:=by simpa using e6
             have e8:((qn n).toList != [112,114,105,110,116])=true:=by simp only[bne,e7];rfl
             rw[decide_eq_false hp,Bool.not_false,Bool.true_and] at hb4
             clear hp h18 h32
             by_cases hq:n=Qz
             · have f6:(qn n).toList=[112,97,110,105,99]:=by rw[HN.out];exact hq
               have f7:((qn n).toList == [112,97,110,105,99])=true:=by rw[f6];rfl
               have f8:((qn n).toList != [112,97,110,105,99])=false:=by simp only[bne,f7];rfl
               rw[decide_eq_true hq] at hb4
               clear hq
               subst hb4
               exact qdV
             · have f6:¬ (qn n).toList=[112,97,110,105,99]:=by rw[HN.out];exact hq
               have f7:((qn n).toList == [112,97,110,105,99])=false:=by simpa using f6
               have f8:((qn n).toList != [112,97,110,105,99])=true:=by simp only[bne,f7];rfl
               rw[decide_eq_false hq] at hb4
               clear hq
               subst hb4
               exact qdV
         · have b32:(k == 32)=false:=beq_eq_false_iff_ne.2 h32
           rw[decide_eq_true h18,decide_eq_false h32] at hb4
           clear h18 h32
           subst hb4
           exact qdV
       · have b18:((m:Int) == 18)=false:=beq_eq_false_iff_ne.2 zxo
         rw[decide_eq_false h18] at hb4
         clear h18
         subst hb4
         exact qdV
      case rest =>
      clear hb4
      obtain⟨rfl,hbx4⟩:=hcut
      cases b4 with
      | true =>
       go_wp2_with fail
       go_ret
       exact⟨qi zxs,qa HB.out (zT HB3.out hbx4)⟩
      | false =>
      have HB4:=zxi (zT HB3.out hbx4)
      have HX5:=zxi (qg HX4.out hbx4)
      clear hbx4 e0 e1 e2 e3 e4 e5 ez el
      obtain⟨e0,e1,e2,e3,e4,e5,ez,el⟩:=qD HX5.out
      rw[HRD2.out] at HRO
      have HRO2:=zxi (fun W hb=>HRO.out W hb hlev)
      clear hlev HRO
      go_upto_region 24 with(go_at_call 45;go_must (refine(HRO2.out _ HB4.out).mono ?_);rintro e w5 ⟨⟨A',cap',rfl,hrm⟩,hb5⟩;have HRM:=zxi hrm;have HB5:=zxi hb5;obtain⟨g0,g1,g2,g3,g4,g5,gz,gl⟩:=qD (qg HX5.out hb5);clear hrm hb5;dsimp only)
      cases may with
      | false =>
       go_wp2_with fail
       go_ret
       exact⟨qi zxs,qa HB.out (zT HB4.out HB5.out)⟩
      | true =>
      by_cases hlr:rows.length=l.length
      · have bn1:((rows.length:Int) == (l.length:Int))=true:=beq_iff_eq.2 zxo
        have bn2:((rows.length:Int) != (l.length:Int))=false:=by simp only[bne,bn1];rfl
        have HLR:=zxi hlr
        clear hlr
        go_wp2_with fail
        go_loopw [12] (fun i wr=>∃ q:Nat,q≤l.length∧i = .int .i64 q∧JB qc qw l rows=JB qc qw (l.drop q) (rows.drop q)∧wr.heap[w.heap.size]?=some (qd ⟨k,f,en,a,qn n,A,l.length,cap⟩)∧Below w5.heap.size w5 wr) (fun i _=>l.length-(intOf i).toNat)
        case atStart=>exact⟨0,Nat.zero_le _,rfl,rfl,qg HX5.out HB5.out,zR _⟩
        case round =>
         obtain⟨q,hq,rfl,hv,hbx,hb⟩:=hrel
         have HV6:=zxi hv
         have HX6:=zxi hbx
         have HB6:=zxi hb
         clear hv hbx hb
         have hll:=HLR.out
         by_cases hlt2:q<l.length
         · have hlt3:q<rows.length:=by omega
           obtain⟨x,hx⟩:∃ x,l[q]?=some x:=⟨_,List.getElem?_eq_getElem hlt2⟩
           obtain⟨row,hrw⟩:∃ row,rows[q]?=some row:=⟨_,List.getElem?_eq_getElem (by have:=HLR.out;omega)⟩
           have HRW:=zxi (show JB qc qw l rows=(qbK qc qw row x&&JB qc qw (l.drop (q+1)) (rows.drop (q+1))) by rw[HV6.out,jk hx,jk hrw,qc8])
           have HBW:=zxi (zT (zT HB4.out HB5.out) HB6.out)
           obtain⟨bk,offk,rx,rfl,hbk,hmx,c0,c1,c2,c3,c4,c5⟩:=(HKD.out.after zxn HBW.out).at hx
           obtain⟨br,offr,gr,rfl,d0,hd⟩:=(HRM.out.later HB6.out).at hrw
           have HKC:=zxi (And.intro c0 (And.intro c1 (And.intro c2 (And.intro c3 (And.intro c4 (And.intro c5 d0))))))
           have HDD:=zxi hd
           have HIX:=zxi (fun d W hb h2=>HI.out x (List.mem_of_getElem? hx) rx d W (hmx.after zxn hb) h2)
           have HSM3:=zxi (fun d hd=>HSM2.out row (List.mem_of_getElem? hrw) d hd)
           have hrl:row.length≤4:=HSH.out row (List.mem_of_getElem? hrw)
           clear hmx hx hrw c0 c1 c2 c3 c4 c5 hd
           unfold RN.val at HIX
           obtain⟨e0,e1,e2,e3,e4,e5,ez,el⟩:=qD HX6.out
           go_wp2_with fail
           go_loopw [13,14] (fun ok kk w6=>∃ (p:Nat) (okb:Bool),p≤row.length∧ok = .bool okb∧kk = .int .i64 p∧qbK qc qw row x=(okb||qbK qc qw (row.drop p) x)∧Below wr.heap.size wr w6) (fun _ kk _=>row.length-(intOf kk).toNat)
           case atStart=>exact⟨0,false,Nat.zero_le _,rfl,rfl,rfl,zR _⟩
           case round =>
            obtain⟨p,okb,hp,rfl,rfl,hv,hb⟩:=hrel
            have HV8:=zxi hv
            have HB8:=zxi hb
            have HX8:=zxi (qg HX6.out hb)
            have hd6:=qm HKC.out.2.2.2.2.2.2 hb
            have HK2:=zxi (And.intro (qm HKC.out.1 hb) (And.intro (qm HKC.out.2.1 hb) (And.intro (qm HKC.out.2.2.1 hb) (And.intro (qm HKC.out.2.2.2.1 hb) (And.intro (qm HKC.out.2.2.2.2.1 hb) (And.intro (qm HKC.out.2.2.2.2.2.1 hb) hd6))))))
            have HD2:=zxi (fun i d hi=>qm (HDD.out i d hi) hb)
            clear hv hb e0 e1 e2 e3 e4 e5 ez el
            obtain⟨e0,e1,e2,e3,e4,e5,ez,el⟩:=qD HX8.out
            by_cases hlt4:p<row.length
            · obtain⟨d,hd⟩:∃ d,row[p]?=some d:=⟨_,List.getElem?_eq_getElem hlt4⟩
              have HD3:=zxi hd
              have HDC:=zxi (HD2.out p d hd)
              have HLE:=zxi (HSM3.out d (List.mem_of_getElem? hd))
              clear hd
              go_wp2_with fail
              cases okb with
              | true =>
               have HKP:=zxi (fun W' (hBW:Below wr.heap.size wr W')=>(show(zE wr w.heap.size ⟨k,f,en,a,qn n,some ⟨bk,offk,none⟩,l.length,cap⟩ (fun w'=>w'.cell? ⟨bk,offk+q*6,none⟩=some (.int .i64 rx.kind)∧w'.cell? ⟨bk,offk+q*6+1,none⟩=some (.int .i64 rx.fr)∧w'.cell? ⟨bk,offk+q*6+2,none⟩=some (.int .i64 rx.en)∧w'.cell? ⟨bk,offk+q*6+3,none⟩=some (.int .i64 rx.at_)∧w'.cell? ⟨bk,offk+q*6+4,none⟩=some (.string rx.name)∧w'.cell? ⟨bk,offk+q*6+5,none⟩=some (.slice rx.A rx.n rx.cap)∧w'.cell? ⟨br,offr+q,none⟩=some (.slice (some ⟨gr,0,none⟩) row.length row.length)∧w'.cell? ⟨gr,p,none⟩=some (.int .i64 d))) W' from by obtain⟨q0,q1,q2,q3,q4,q5,q6⟩:=qh HX8.out hBW;exact⟨q0,q1,q2,q3,q4,q5,q6,qm HK2.out.1 hBW,qm HK2.out.2.1 hBW,qm HK2.out.2.2.1 hBW,qm HK2.out.2.2.2.1 hBW,qm HK2.out.2.2.2.2.1 hBW,qm HK2.out.2.2.2.2.2.1 hBW,qm HK2.out.2.2.2.2.2.2 hBW,qm HDC.out hBW⟩))
               refine zHD HKP fun hHeld=>?_
               refine zTk 0 (h:=?_)
               refine zTk 1 (h:=?_)
               refine zTn 2 (h:=?_)
               refine zTn 3 (h:=?_)
               refine zTn 4 (h:=?_)
               refine zTn 5 (h:=?_)
               refine zTn 6 (h:=?_)
               refine zTn 7 (h:=?_)
               refine zTn 8 (h:=?_)
               refine zTn 9 (h:=?_)
               refine zTn 10 (h:=?_)
               refine zTn 11 (h:=?_)
               refine zTn 12 (h:=?_)
               refine zTn 13 (h:=?_)
               refine zTn 14 (h:=?_)
               refine zTk 15 (h:=?_)
               refine zTk 16 (h:=?_)
               refine wpAnyH_done (by kernel_rfl) ?_ _
               go_wp2_with fail
               go_roundw
               case rel=>exact⟨p+1,true,by omega,rfl,by go_num,by rw[HV8.out];rfl,zT HB8.out zxe⟩
               case measure=>simp only[intOf];omega
              | false =>
               have HKP:=zxi (fun W' (hBW:Below wr.heap.size wr W')=>(show(zE wr w.heap.size ⟨k,f,en,a,qn n,some ⟨bk,offk,none⟩,l.length,cap⟩ (fun w'=>w'.cell? ⟨bk,offk+q*6,none⟩=some (.int .i64 rx.kind)∧w'.cell? ⟨bk,offk+q*6+1,none⟩=some (.int .i64 rx.fr)∧w'.cell? ⟨bk,offk+q*6+2,none⟩=some (.int .i64 rx.en)∧w'.cell? ⟨bk,offk+q*6+3,none⟩=some (.int .i64 rx.at_)∧w'.cell? ⟨bk,offk+q*6+4,none⟩=some (.string rx.name)∧w'.cell? ⟨bk,offk+q*6+5,none⟩=some (.slice rx.A rx.n rx.cap)∧w'.cell? ⟨br,offr+q,none⟩=some (.slice (some ⟨gr,0,none⟩) row.length row.length)∧w'.cell? ⟨gr,p,none⟩=some (.int .i64 d))) W' from by obtain⟨q0,q1,q2,q3,q4,q5,q6⟩:=qh HX8.out hBW;exact⟨q0,q1,q2,q3,q4,q5,q6,qm HK2.out.1 hBW,qm HK2.out.2.1 hBW,qm HK2.out.2.2.1 hBW,qm HK2.out.2.2.2.1 hBW,qm HK2.out.2.2.2.2.1 hBW,qm HK2.out.2.2.2.2.2.1 hBW,qm HK2.out.2.2.2.2.2.2 hBW,qm HDC.out hBW⟩))
               refine zHD HKP fun hHeld=>?_
               refine zTk 0 (h:=?_)
               refine zTk 1 (h:=?_)
               refine zTk 2 (h:=?_)
               refine zTk 3 (h:=?_)
               refine zTk 4 (h:=?_)
               refine zTk 5 (h:=?_)
               refine zTk 6 (h:=?_)
               refine zTk 7 (h:=?_)
               refine zTk 8 (h:=?_)
               refine zTk 9 (h:=?_)
               refine zTk 10 (h:=?_)
               refine zTk 11 (h:=?_)
               refine zTk 12 (h:=?_)
               refine zTk 13 (h:=?_)
               refine zRd 14 (h:=fun KK hKK=>?_)
               go_simp
               (refine(HIX.out d _ (zT HB8.out zxe) HLE.out).mono ?_;rintro e w7 ⟨rfl,hb7⟩)
               (try go_wp2_with fail)
               refine zKK hKK HKP fun hHeld2=>?_;clear hKK KK hHeld;rename _=>hHeld
               refine zTk 15 (h:=?_)
               refine zTk 16 (h:=?_)
               refine wpAnyH_done (by kernel_rfl) ?_ _
               go_wp2_with fail
               go_roundw
               case rel=>exact⟨p+1,isR qc qw x d,by omega,rfl,by go_num,by rw[HV8.out,jk HD3.out];rfl,zT HB8.out zxe⟩
               case measure=>simp only[intOf];omega
            · have hv9:qbK qc qw row x=okb:=by rw[HV8.out,List.drop_of_length_le zxo];simp[qbK]
              rw[hv9] at HRW
              cases okb with
              | true =>
               go_wp2_with fail
               go_roundw
               case rel=>exact⟨q+1,by omega,by go_num,by rw[HRW.out,Bool.true_and],(by first | exact HX8.out | exact(Array.getElem?_eq_some_iff.1 HX8.out).2),zT HB6.out HB8.out⟩
               case measure=>simp only[intOf];omega
              | false =>
               go_wp2_with fail
               go_ret
               exact⟨qi (by rw[HRW.out];rfl),qa HB.out (zT (zT (zT HB4.out HB5.out) HB6.out) HB8.out)⟩
         · have hlt3:¬ q<rows.length:=by omega
           have HV7:=zxi (show JB qc qw l rows=true by rw[HV6.out,List.drop_of_length_le zxo,List.drop_of_length_le (by have:=HLR.out;omega)];simp[JB])
           go_wp2_with fail
           go_ret
           exact⟨qi (by rw[HV7.out];rfl),qa HB.out (zT (zT HB4.out HB5.out) HB6.out)⟩
      · have bn1:((rows.length:Int) == (l.length:Int))=false:=beq_eq_false_iff_ne.2 zxo
        have bn2:((rows.length:Int) != (l.length:Int))=true:=by simp only[bne,bn1];rfl
        have HF:=zxi (show JB qc qw l rows=false by rw[qF];exact qch (by rw[List.length_map];exact hlr))
        clear hlr
        go_wp2_with fail
        go_ret
        exact⟨qi (by rw[HF.out]),qa HB.out (zT HB4.out HB5.out)⟩
theorem qd3:∀ (l:List Tree) (b:Bool),(Jg b l).length=l.length
 | [],_=>rfl
 | t::l,b=>by unfold Jg;rw[List.length_cons,qd3 l,List.length_cons]
theorem qdN:∀ (l:List Tree) (b:Bool),∀ row∈Jg b l,∃ c,row=[c]∧c≤2000
 | [],_,row,h=>by unfold Jg at h;cases h
 | t::l,b,row,h=>by
  unfold Jg at h
  rcases List.mem_cons.1 h with rfl | h
  · split
    · exact⟨1,rfl,by omega⟩
    · exact⟨2,rfl,by omega⟩
  · exact qdN l _ row h
theorem qxz (HT:qoR) (t:Tree) (r:RN) (w:World) (hm:NodeM w w.heap.size t r) (hc:qY t≤3000) :
  Calls Tryz.prog 16 #[r.val] w fun e w'=>e = .returned (.int .i64 (jY qc qw t))∧Below w.heap.size w w':=by
 obtain⟨k,f,en,a,n,l⟩:=t
 obtain⟨A,cap,rfl,hk⟩:=hm.open2
 have hlen:=jP hc
 have HX:=zxi (heap_alloc_new w (qd ⟨k,f,en,a,qn n,A,l.length,cap⟩))
 have HB:=zxi ((Below.refl w.heap.size w).alloc zxn (qd ⟨k,f,en,a,qn n,A,l.length,cap⟩))
 have HM:=zxi (hm.boxed zxn (qd ⟨k,f,en,a,qn n,A,l.length,cap⟩))
 have HKD:=zxi (hk.after zxn HB.out)
 have HI:=zxi (fun x hx rx d W hm hd=>rIs HT x rx d W hm (Jy hc hx) hd)
 obtain⟨W0,hW0⟩:∃ W0,w.alloc (qd ⟨k,f,en,a,qn n,A,l.length,cap⟩)=W0:=⟨_,rfl⟩
 rw[hW0] at HX HB HM HKD
 have HDP:=zxi (fun W (hb:Below W0.heap.size W0 W)=>qml (.mk k f en a n l) ⟨k,f,en,a,qn n,A,l.length,cap⟩ W (HM.out.after zxn hb) hc)
 have HNM:=zxi (fun W=>qfZ (qn n) W (by rw[Jd];omega))
 have HRO:=zxi (fun W (hb:Below W0.heap.size W0 W) hl=>qwD (.mk k f en a n l) ⟨k,f,en,a,qn n,A,l.length,cap⟩ 0 false W (HM.out.after zxn hb) hc hl)
 rw[qj] at HNM
 unfold jY
 obtain⟨D,hD⟩:∃ D,jc (.mk k f en a n l)=D:=⟨_,rfl⟩
 have hdl:D≤3000:=by rw[← hD];exact Nat.le_trans (qb2 _) hc
 rw[hD] at HDP ⊢
 have hfv:qbo qc qw (.mk k f en a n l)=(decide (k=1)&&qc n&&JB qc qw l (Jg true l)):=by unfold qbo;rw[qc0];rfl
 obtain⟨CV,hCV⟩:∃ CV:Int,(if (decide (k=1)&&qc n&&JB qc qw l (Jg true l))=true then (0:Int) else 4)=CV:=⟨_,rfl⟩
 rw[hfv,hCV]
 clear hm hk hc hD hfv HM
 unfold qd at hW0
 unfold RN.val at HDP HRO ⊢
 obtain⟨e0,e1,e2,e3,e4,e5,ez,el⟩:=qD HX.out
 by_cases h64:64<D
 · have b1:decide ((64:Int)<(D:Int))=true:=decide_eq_true zxo
   rw[if_pos h64]
   clear hCV HRO HNM HI HKD
   go_enter Tryz.func16,Tryz.ntmps16
   go_wp2_with (first | (go_at_call 15;go_must (refine(HDP.out _ (zR _)).mono ?_);rintro e wA ⟨rfl,hbA⟩;clear e0 e1 e2 e3 e4 e5 ez el;obtain⟨e0,e1,e2,e3,e4,e5,ez,el⟩:=qD (qg HX.out hbA)))
   go_ret
   exact⟨rfl,qa HB.out zxa⟩
 have b1:decide ((64:Int)<(D:Int))=false:=decide_eq_false zxo
 rw[if_neg h64]
 clear h64
 have HCV:=zxi hCV
 clear hCV
 by_cases hk1:k=1
 · subst hk1
   obtain⟨nb,hnb⟩:∃ nb,qc n=nb:=⟨_,rfl⟩
   obtain⟨rows,hrows⟩:∃ rows,Jg true l=rows:=⟨_,rfl⟩
   have HRD:=zxi (show qX (.mk 1 f en a n l) 0 false=(rows,true) by rw[← hrows];exact if_pos rfl)
   have hrl:rows.length=l.length:=by rw[← hrows];exact qd3 l true
   have HON:=zxi (show ∀ row∈rows,∃ c,row=[c]∧c≤2000 by rw[← hrows];exact qdN l true)
   have HCW:=zxi (show(if (nb&&JB qc qw l rows)=true then (0:Int) else 4)=CV by rw[← HCV.out,hnb,hrows];simp)
   rw[hnb] at HNM
   have HRO:=zxi (fun W hb=>HRO.out W hb (fun e=>absurd (show(1:Int)=31 from e) zxd))
   rw[HRD.out] at HRO
   clear hnb hrows HRD
   cases nb with
   | false =>
    go_enter Tryz.func16,Tryz.ntmps16
    go_wp2_with (first | (go_at_call 44;have hz:=hbA;go_must (refine(HNM.out _).mono ?_);rintro e wB ⟨rfl,hbB⟩;have hbC:=zT hz hbB;clear e0 e1 e2 e3 e4 e5 ez el;obtain⟨e0,e1,e2,e3,e4,e5,ez,el⟩:=qD (qg HX.out hbC)) | (go_at_call 15;go_must (refine(HDP.out _ (zR _)).mono ?_);rintro e wA ⟨rfl,hbA⟩;clear e0 e1 e2 e3 e4 e5 ez el;obtain⟨e0,e1,e2,e3,e4,e5,ez,el⟩:=qD (qg HX.out hbA)))
    go_ret
    exact⟨jB HCW.out,qa HB.out hbC⟩
   | true =>
    have HLN:=zxi hrl
    clear hrl
    go_enter Tryz.func16,Tryz.ntmps16
    go_upto_region 6 with(first | (go_at_call 45;have hz:=hbC;go_must (refine(HRO.out _ hz).mono ?_);rintro e w5 ⟨⟨A',cap',rfl,hrm⟩,hb5⟩;have HRM:=zxi hrm;have HB5:=zxi (zT hz hb5);clear hrm hb5;dsimp only) | (go_at_call 44;have hz:=hbA;go_must (refine(HNM.out _).mono ?_);rintro e wB ⟨rfl,hbB⟩;have hbC:=zT hz hbB;clear e0 e1 e2 e3 e4 e5 ez el;obtain⟨e0,e1,e2,e3,e4,e5,ez,el⟩:=qD (qg HX.out hbC)) | (go_at_call 15;go_must (refine(HDP.out _ (zR _)).mono ?_);rintro e wA ⟨rfl,hbA⟩;clear e0 e1 e2 e3 e4 e5 ez el;obtain⟨e0,e1,e2,e3,e4,e5,ez,el⟩:=qD (qg HX.out hbA)))
    have hln:=HLN.out
    go_wp2_with fail
    go_loopw [5] (fun i wr=>∃ q:Nat,q≤l.length∧i = .int .i64 q∧JB qc qw l rows=JB qc qw (l.drop q) (rows.drop q)∧wr.heap[w.heap.size]?=some (qd ⟨1,f,en,a,qn n,A,l.length,cap⟩)∧Below w5.heap.size w5 wr) (fun i _=>l.length-(intOf i).toNat)
    case atStart=>exact⟨0,Nat.zero_le _,rfl,rfl,qg HX.out HB5.out,zR _⟩
    case round =>
     obtain⟨q,hq,rfl,hv,hbx,hb⟩:=hrel
     clear e0 e1 e2 e3 e4 e5 ez el
     have HV6:=zxi hv
     have HX6:=zxi hbx
     have HB6:=zxi hb
     clear hv hbx hb
     have hll:=HLN.out
     obtain⟨e0,e1,e2,e3,e4,e5,ez,el⟩:=qD HX6.out
     by_cases hlt2:q<l.length
     · have hlt3:q<rows.length:=by omega
       obtain⟨x,hx⟩:∃ x,l[q]?=some x:=⟨_,List.getElem?_eq_getElem hlt2⟩
       obtain⟨row,hrw⟩:∃ row,rows[q]?=some row:=⟨_,List.getElem?_eq_getElem hlt3⟩
       obtain⟨c,rfl,hc2⟩:=HON.out row (List.mem_of_getElem? hrw)
       have HRW:=zxi (show JB qc qw l rows=(isR qc qw x c&&JB qc qw (l.drop (q+1)) (rows.drop (q+1))) by rw[HV6.out,jk hx,jk hrw,qc8];simp[qbK])
       obtain⟨bk,offk,rx,rfl,hbk,hmx,c0,c1,c2,c3,c4,c5⟩:=(HKD.out.after zxn (zT HB5.out HB6.out)).at hx
       obtain⟨br,offr,gr,rfl,d0,hd⟩:=(HRM.out.later HB6.out).at hrw
       have HKC:=zxi (And.intro c0 (And.intro c1 (And.intro c2 (And.intro c3 (And.intro c4 (And.intro c5 d0))))))
       have HDC:=zxi (hd 0 c rfl)
       have HIX:=zxi (fun d W hb h2=>HI.out x (List.mem_of_getElem? hx) rx d W (hmx.after zxn hb) h2)
       have HLE:Hid (c≤2000):=zxi hc2
       unfold RN.val at HIX
       obtain⟨bb,hbb⟩:∃ bb,isR qc qw x c=bb:=⟨_,rfl⟩
       rw[hbb] at HRW
       have HIX:=zxi (fun W hb=>HIX.out c W hb HLE.out)
       rw[hbb] at HIX
       clear hmx hx hrw c0 c1 c2 c3 c4 c5 d0 hd hc2 hbb
       go_wp2_with fail
       cases bb with
       | true =>
        have HKP:=zxi (fun W' (hBW:Below wr.heap.size wr W')=>(show(zE wr w.heap.size ⟨1,f,en,a,qn n,some ⟨bk,offk,none⟩,l.length,cap⟩ (fun w'=>w'.cell? ⟨bk,offk+q*6,none⟩=some (.int .i64 rx.kind)∧w'.cell? ⟨bk,offk+q*6+1,none⟩=some (.int .i64 rx.fr)∧w'.cell? ⟨bk,offk+q*6+2,none⟩=some (.int .i64 rx.en)∧w'.cell? ⟨bk,offk+q*6+3,none⟩=some (.int .i64 rx.at_)∧w'.cell? ⟨bk,offk+q*6+4,none⟩=some (.string rx.name)∧w'.cell? ⟨bk,offk+q*6+5,none⟩=some (.slice rx.A rx.n rx.cap)∧w'.cell? ⟨br,offr+q,none⟩=some (.slice (some ⟨gr,0,none⟩) 1 1)∧w'.cell? ⟨gr,0,none⟩=some (.int .i64 c))) W' from by obtain⟨q0,q1,q2,q3,q4,q5,q6⟩:=qh HX6.out hBW;exact⟨q0,q1,q2,q3,q4,q5,q6,qm HKC.out.1 hBW,qm HKC.out.2.1 hBW,qm HKC.out.2.2.1 hBW,qm HKC.out.2.2.2.1 hBW,qm HKC.out.2.2.2.2.1 hBW,qm HKC.out.2.2.2.2.2.1 hBW,qm HKC.out.2.2.2.2.2.2 hBW,qm HDC.out hBW⟩))
        refine zHD HKP fun hHeld=>?_
        refine zTk 0 (h:=?_)
        refine zTk 1 (h:=?_)
        refine zTk 2 (h:=?_)
        refine zTk 3 (h:=?_)
        refine zTk 4 (h:=?_)
        refine zTk 5 (h:=?_)
        refine zTk 6 (h:=?_)
        refine zTk 7 (h:=?_)
        refine zTk 8 (h:=?_)
        refine zTk 9 (h:=?_)
        refine zTk 10 (h:=?_)
        refine zRd 11 (h:=fun KK hKK=>?_)
        go_simp
        (refine(HIX.out _ zxe).mono ?_;rintro e w7 ⟨rfl,hb7⟩)
        (try go_wp2_with fail)
        refine zKK hKK HKP fun hHeld2=>?_;clear hKK KK hHeld;rename _=>hHeld
        refine zTk 12 (h:=?_)
        refine wpAnyH_done (by kernel_rfl) ?_ _
        go_wp2_with fail
        go_roundw
        case rel=>exact⟨q+1,by omega,by go_num,by rw[HRW.out,Bool.true_and],qg HX6.out zxe,zT HB6.out zxe⟩
        case measure=>simp only[intOf];omega
       | false =>
        have HKP:=zxi (fun W' (hBW:Below wr.heap.size wr W')=>(show(zE wr w.heap.size ⟨1,f,en,a,qn n,some ⟨bk,offk,none⟩,l.length,cap⟩ (fun w'=>w'.cell? ⟨bk,offk+q*6,none⟩=some (.int .i64 rx.kind)∧w'.cell? ⟨bk,offk+q*6+1,none⟩=some (.int .i64 rx.fr)∧w'.cell? ⟨bk,offk+q*6+2,none⟩=some (.int .i64 rx.en)∧w'.cell? ⟨bk,offk+q*6+3,none⟩=some (.int .i64 rx.at_)∧w'.cell? ⟨bk,offk+q*6+4,none⟩=some (.string rx.name)∧w'.cell? ⟨bk,offk+q*6+5,none⟩=some (.slice rx.A rx.n rx.cap)∧w'.cell? ⟨br,offr+q,none⟩=some (.slice (some ⟨gr,0,none⟩) 1 1)∧w'.cell? ⟨gr,0,none⟩=some (.int .i64 c))) W' from by obtain⟨q0,q1,q2,q3,q4,q5,q6⟩:=qh HX6.out hBW;exact⟨q0,q1,q2,q3,q4,q5,q6,qm HKC.out.1 hBW,qm HKC.out.2.1 hBW,qm HKC.out.2.2.1 hBW,qm HKC.out.2.2.2.1 hBW,qm HKC.out.2.2.2.2.1 hBW,qm HKC.out.2.2.2.2.2.1 hBW,qm HKC.out.2.2.2.2.2.2 hBW,qm HDC.out hBW⟩))
        refine zHD HKP fun hHeld=>?_
        refine zTk 0 (h:=?_)
        refine zTk 1 (h:=?_)
        refine zTk 2 (h:=?_)
        refine zTk 3 (h:=?_)
        refine zTk 4 (h:=?_)
        refine zTk 5 (h:=?_)
        refine zTk 6 (h:=?_)
        refine zTk 7 (h:=?_)
        refine zTk 8 (h:=?_)
        refine zTk 9 (h:=?_)
        refine zTk 10 (h:=?_)
        refine zRd 11 (h:=fun KK hKK=>?_)
        go_simp
        (refine(HIX.out _ zxe).mono ?_;rintro e w7 ⟨rfl,hb7⟩)
        (try go_wp2_with fail)
        refine zKK hKK HKP fun hHeld2=>?_;clear hKK KK hHeld;rename _=>hHeld
        refine zTk 12 (h:=?_)
        refine wpAnyH_done (by kernel_rfl) ?_ _
        go_wp2_with fail
        go_ret
        exact⟨jB (by rw[← HCW.out,HRW.out];rfl),qa HB.out (zT (zT HB5.out HB6.out) zxe)⟩
     · have hlt3:¬ q<rows.length:=by omega
       have HV7:=zxi (show JB qc qw l rows=true by rw[HV6.out,List.drop_of_length_le zxo,List.drop_of_length_le zxo];simp[JB])
       go_wp2_with fail
       go_ret
       exact⟨jB (by rw[← HCW.out,HV7.out];rfl),qa HB.out (zT HB5.out HB6.out)⟩
 · have b2:(k == 1)=false:=beq_eq_false_iff_ne.2 hk1
   have b3:(k != 1)=true:=by simp only[bne,b2];rfl
   have HCW:=zxi (show(4:Int)=CV by rw[← HCV.out,decide_eq_false hk1];rfl)
   clear HRO HNM HI HKD hk1
   go_enter Tryz.func16,Tryz.ntmps16
   go_wp2_with (first | (go_at_call 15;go_must (refine(HDP.out _ (zR _)).mono ?_);rintro e wA ⟨rfl,hbA⟩;clear e0 e1 e2 e3 e4 e5 ez el;obtain⟨e0,e1,e2,e3,e4,e5,ez,el⟩:=qD (qg HX.out hbA)))
   go_ret
   exact⟨jB HCW.out,qa HB.out hbA⟩
theorem qhD (HT:qoR) (t:Tree) (r:RN) (w:World) (hG:LexG w) (hm:NodeM w w.heap.size t r) (hf:qbL t) :
  Calls Tryz.prog 3 #[r.val] w fun e w'=>e = .returned (.bool true)∧Below w.heap.size w w':=by
 obtain⟨W0,hW0⟩:∃ W0,w.alloc (qd r)=W0:=⟨_,rfl⟩
 have HX:=zxi (show W0.heap[w.heap.size]?=some (qd r) by rw[← hW0];exact heap_alloc_new _ _)
 have HB:=zxi (show Below w.heap.size w W0 by rw[← hW0];exact zA (zR _))
 have HM:=zxi (fun W (hb:Below W0.heap.size W0 W)=>hm.after zxn (qa HB.out hb))
 have HG:=zxi (fun W (hb:Below W0.heap.size W0 W)=>(hG.below HB.out).below hb)
 have HW:=zxi (fun W (hb:Below W0.heap.size W0 W)=>qsB W (HG.out W hb))
 have HF:=zxi (fun W (hb:Below W0.heap.size W0 W)=>qxy t r W (HM.out W hb) hf)
 have hcost:decide (0<QQ 3000 t)=true→qY t≤3000:=fun h=>qlD (of_decide_eq_true h)
 generalize decide (0<QQ 3000 t)=d at *
 obtain⟨-,e0,e1,e2,e3,e4,e5⟩:=qh HX.out (Below.refl _ _)
 clear hG hm hf
 cases d with
 | false =>
  clear hcost
  unfold RN.val at HF ⊢
  unfold qd at hW0
  go_enter Tryz.func3,Tryz.ntmps3
  go_wp2_with (first | (go_at_call 11;go_must (refine(HF.out _ (Below.refl _ _)).mono ?_);rintro e wA ⟨rfl,hbA⟩) | (go_at_call 12;go_must (refine(HW.out _ hbA).mono ?_);rintro e wB ⟨rfl,hbB⟩))
  go_ret
  exact⟨rfl,qa HB.out (qa hbA hbB)⟩
 | true =>
  have hc:=hcost rfl
  have HDA:=zxi (fun W (hb:Below W0.heap.size W0 W)=>qi2 t r W (HM.out W hb) hc)
  have HDR:=zxi (fun W (hb:Below W0.heap.size W0 W)=>qml t r W (HM.out W hb) hc)
  have HCA:=zxi (fun W (hb:Below W0.heap.size W0 W)=>qh8 t r W (HG.out W hb) (HM.out W hb) hc)
  have HCR:=zxi (fun W (hb:Below W0.heap.size W0 W)=>qxz HT t r W (HM.out W hb) hc)
  generalize jc t=D at *
  generalize jY qc qw t=C at *
  have bD:((D:Int) == (D:Int))=true:=beq_self_eq_true _
  have bC:(C == C)=true:=beq_self_eq_true _
  clear hcost hc HM HG
  unfold RN.val at HF HDA HDR HCA HCR ⊢
  unfold qd at hW0
  go_enter Tryz.func3,Tryz.ntmps3
  go_wp2_with (first | (go_at_call 13;have hz:=hbA;go_must (refine(HCA.out _ hz).mono ?_);rintro e wB ⟨rfl,hbB⟩;have hbC:=zT hz hbB;clear e0 e1 e2 e3 e4 e5;obtain⟨-,e0,e1,e2,e3,e4,e5⟩:=qh HX.out hbC) | (go_at_call 11;go_must (refine(HF.out _ (Below.refl _ _)).mono ?_);rintro e wA ⟨rfl,hbA⟩;clear e0 e1 e2 e3 e4 e5;obtain⟨-,e0,e1,e2,e3,e4,e5⟩:=qh HX.out hbA))
  have HKP:=zxi (fun W' (hBW:Below W0.heap.size W0 W')=>(show(zS W0 w.heap.size r) W' from by exact qh HX.out hBW))
  refine zHD HKP fun hHeld=>?_
  refine zTk 0 (h:=?_)
  refine zTk 2 (h:=?_)
  refine zRd 1 (h:=fun KK hKK=>?_)
  go_simp
  (refine((zb HDA)).mono ?_;rintro e w1 ⟨rfl,hb1⟩)
  (try go_wp2_with fail)
  refine zKK hKK HKP fun hHeld2=>?_;clear hKK KK hHeld;rename _=>hHeld
  refine zRd 3 (h:=fun KK hKK=>?_)
  go_simp
  (refine((zb HDR)).mono ?_;rintro e w2 ⟨rfl,hb2⟩)
  (try go_wp2_with fail)
  refine zKK hKK HKP fun hHeld2=>?_;clear hKK KK hHeld;rename _=>hHeld
  refine zTk 4 (h:=?_)
  refine zTk 5 (h:=?_)
  refine zTk 6 (h:=?_)
  refine zTk 7 (h:=?_)
  refine zRd 8 (h:=fun KK hKK=>?_)
  go_simp
  (refine((zb HCR)).mono ?_;rintro e w3 ⟨rfl,hb3⟩)
  (try go_wp2_with fail)
  refine zKK hKK HKP fun hHeld2=>?_;clear hKK KK hHeld;rename _=>hHeld
  refine zTk 9 (h:=?_)
  refine zTk 10 (h:=?_)
  refine zTk 11 (h:=?_)
  refine zRd 12 (h:=fun KK hKK=>?_)
  go_simp
  (refine((zb HW)).mono ?_;rintro e w4 ⟨rfl,hb4⟩)
  (try go_wp2_with fail)
  refine zKK hKK HKP fun hHeld2=>?_;clear hKK KK hHeld;rename _=>hHeld
  refine zTk 13 (h:=?_)
  refine zTk 14 (h:=?_)
  refine wpAnyH_done (by kernel_rfl) ?_ _
  have HE:=qa HB.out hHeld.1
  clear hHeld
  go_wp2_with fail
  go_ret
  exact⟨rfl,HE⟩
end Go.Proofs.YtacdfjlncfidgaaGreatDoor
