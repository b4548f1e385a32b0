/- A part of what the claim leans on. -/
import Derived.Test.YtacdfjlncfidgaaGreatDoorQS
import Derived.Test.YtacdfjlncfidgaaGreatDoorQM
import Derived.Deep.DeepCutAuto
import Derived.Deep.CutBlock
namespace Go.Proofs.YtacdfjlncfidgaaGreatDoor
open Go.RowKit
set_option linter.unusedVariables false
set_option linter.unusedSimpArgs false
set_option maxRecDepth 100000
set_option maxHeartbeats 6400000
def qad (w:World) (b:Nat) (ng tr:Bool) (R:Nat→Int→Nat→Int→Prop) (lo hi:Int) (D:List Nat) (dp:Int) (w':World):Prop :=
 ∃ (c' D':List Nat) (dp':Int),Dcm w' b c' (D'.length:Int) dp' ng tr∧Has c' 0 D'∧Digs D'∧Lead D'∧LastNZ D'∧D'.length≤800∧R (dv D) (dp-D.length) (dv D') (dp'-D'.length)∧dp+lo≤dp'∧dp'≤dp+hi∧Below b w w'
structure P1 (D:List Nat) (k r n:Nat):Prop where
 r1:1≤r
 r2:r≤20
 n_:n=pre D r
 lo:2^k≤n
 hi:n<10*2^k
theorem qnY {k:Nat} (hk:k≤60):2^k≤1152921504606846976:=Nat.pow_le_pow_right (n:=2) zxd hk
theorem qqY {D:List Nat} {k r n:Nat} (hl:Lead D) (hk:k≤60) (h1:1≤r) (hn:n=pre D r) (lo:2^k≤n) (hi:n<10*2^k):P1 D k r n:=by
 refine⟨h1,?_,hn,lo,hi⟩
 have h2:=qil hl r h1
 have h3:=qnY hk
 have h4:10^(r-1)<10^20:=by rw[← hn] at h2;have:(10:Nat)^20=100000000000000000000:=by decide
                            omega
 have:=(Nat.pow_lt_pow_iff_right (show 1<10 by decide)).1 h4
 omega
structure RI (D:List Nat) (k r0 r n:Nat) (W c:List Nat):Prop where
 len:r=r0+W.length
 val:dv W*10*2^k+n=pre D r
 hi:n<10*2^k
 dg:Digs W
 lead:W≠[]→Lead W
 one:W=[]→2^k≤n
 hw:Has c 0 W
 hd:Has c r (D.drop r)
 r1:1≤r0
 r2:r0≤20
theorem RI.begin_ {D c:List Nat} {k r n:Nat} (h:P1 D k r n) (hc:Has c 0 D):RI D k r r n [] c where
 len:=rfl
 val:=by rw[h.n_];simp[dv]
 hi:=h.hi
 dg:=Digs.nil
 lead:=fun h=>absurd rfl h
 one:=fun _=>h.lo
 hw:=Has.nil
 hd:=by have:=hc.drop r;rwa [Nat.zero_add] at this
 r1:=h.r1
 r2:=h.r2
theorem RI.put {D c W:List Nat} {k r0 r n A M x n':Nat} (h:RI D k r0 r n W c) (hA:n/2^k=A) (hM:n%2^k=M) (hx:x=D.getD r 0) (hx9:x<10) (hn':n'=M*10+x) (hlen:c.length=800) (hw:W.length<800) :
  RI D k r0 (r+1) n' (W++[A]) (c.set W.length (48+A)) where
 len:=by rw[List.length_append,h.len];simp;omega
 val:=by
  have e:pre D (r+1)=pre D r*10+D.getD r 0:=rfl
  rw[qav,hn',e,← hx,← hA,← hM]
  exact qnC _ _ _ _ _ h.val
 hi:=by
  have:M<2^k:=by rw[← hM];exact Nat.mod_lt _ (Nat.two_pow_pos k)
  omega
 dg:=h.dg.snoc (by rw[← hA];exact(Nat.div_lt_iff_lt_mul (Nat.two_pow_pos k)).2 h.hi)
 lead:=fun _=>qdK h.lead fun e=>by
  have:=h.one e
  have h2:=Nat.div_pos this (Nat.two_pow_pos k)
  omega
 one:=fun e=>by simp at e
 hw:=h.hw.snoc zxo zxo
 hd:=by
  have h1:=h.hd.drop 1
  rw[List.drop_drop] at h1
  refine h1.set_off (.inl ?_)
  have:=h.len;have:=h.r1;omega
 r1:=h.r1
 r2:=h.r2
theorem RI.room {D c W:List Nat} {k r0 r n:Nat} (h:RI D k r0 r n W c) (hR:qtX qeP (dv D) k) (hn:0<n) (hr:D.length≤r):W.length<782:=by
 rcases Nat.lt_or_ge W.length 782 with h1 | h1
 · exact h1
 · exfalso
   have hne:W≠[]:=by intro e;rw[e] at h1;simp at h1
   have h2:=h.val
   rw[QV D r hr] at h2
   refine qoo (L:=qeP) hR h2 hn h.hi ?_ zxd
   exact Nat.le_trans (Nat.pow_le_pow_right zxd (by have:qeP=782:=rfl;omega)) (qbR (h.lead hne))
theorem RI.done {D c W:List Nat} {k r0 r:Nat} {dp dp1:Int} (h:RI D k r0 r 0 W c) (hr:D.length≤r) (hdp:dp1=dp-(r0-1)) :
  W≠[]∧Lead W∧Halved (dv D) (dp-D.length) (dv W) (dp1-W.length) k:=by
 have hne:W≠[]:=fun e=>by
  have:=h.one e
  have:=Nat.two_pow_pos k
  omega
 refine⟨hne,h.lead hne,fun p q hv=>?_⟩
 have h2:=h.val
 rw[QV D r hr,Nat.add_zero] at h2
 have h3:=qjm hv h2 hr
 have h4:=h.len
 rwa [show dp+1-(r:Int)=dp1-W.length by omega] at h3
theorem qcB (n:Nat) (h:n<18446744073709551616):IntKind.u64.wrap (n:Int)=(n:Int):=by simp only[IntKind.wrap,IntKind.bits,IntKind.signed];simp;omega
theorem qh1 (a b:Nat) (ha:a<18446744073709551616) (hb:b<18446744073709551616):bits BinOp.and IntKind.u64 (a:Int) (b:Int)=((a &&& b:Nat):Int):=by
 have h:a &&& b<2^64:=Nat.and_lt_two_pow a (by simpa using hb)
 show IntKind.u64.wrap (((BitVec.ofInt 64 (a:Int) &&& BitVec.ofInt 64 (b:Int)).toNat:Nat):Int)=_
 rw[BitVec.toNat_and,BitVec.ofInt_natCast,BitVec.ofInt_natCast,BitVec.toNat_ofNat,BitVec.toNat_ofNat,Nat.mod_eq_of_lt (by simpa using ha),Nat.mod_eq_of_lt (by simpa using hb)]
 exact qcB _ (by simpa using h)
theorem qjx (n k K:Nat) (hK:2^k=K) (hn:n<18446744073709551616) (hk:K≤1152921504606846976):bits BinOp.and IntKind.u64 (n:Int) ((K-1:Nat):Int)=((n%K:Nat):Int):=by
 rw[qh1 n (K-1) hn zxo,← hK,Nat.and_two_pow_sub_one_eq_mod]
theorem qdt (b:Nat) (c:List Nat) (dp:Int) (ng tr:Bool) (D:List Nat) (k:Nat) (w:World) (h:Dcm w b c (D.length:Int) dp ng tr) (hl:Lead D) (hd:Digs D) (hle:D.length≤800) (hc:Has c 0 D)
  (hk1:1≤k) (hk:k≤60) (hR:qtX qeP (dv D) k) (hdp : -100000≤dp) (hdp2:dp≤100000) :
  Calls Tryz.prog 245 #[.pointer (some ⟨b,0,none⟩),.int .u64 (k:Int)] w fun e w'=>e = .returned (.tuple #[])∧qad w b ng tr (fun N z N' z'=>Halved N z N' z' k) (-900) 0 D dp w':=by
 have hpos:0<D.length:=List.length_pos_iff.2 hl.ne
 have hDpos:=qms hl
 have HC:=zxi hc
 have HL:=zxi hl
 have HD:=zxi hd
 have H:=zxi h
 have HR:=zxi hR
 obtain⟨K,hK⟩:∃ K,2^k=K:=⟨_,rfl⟩
 have hKb:K≤1152921504606846976:=by rw[← hK];exact qnY hk
 have hK0:0<K:=by rw[← hK];exact Nat.two_pow_pos k
 have HK:=zxi hK
 have c0:=h.nd_
 have c1:=h.dp_
 have f1:=h.thaw 801
 have hk0:¬ (k:Int)<0:=by omega
 clear hc h hl hd hR hK
 go_enter Tryz.func245,Tryz.ntmps245
 go_upto_block 0 with(fail)
 go_cut [4,6] (fun s4 s6 wx=>∃ r n:Nat,s4 = .int .i64 r∧s6 = .int .u64 n∧P1 D k r n∧wx=w)
 case first =>
  go_wp2_with fail
  go_loop [4,6] (fun rv nv=>∃ r n:Nat,rv = .int .i64 r∧nv = .int .u64 n∧r≤D.length∧n=pre D r∧n<10*K∧(K≤n→1≤r)) (fun rv _=>D.length+1-(intOf rv).toNat)
  case atStart=>exact⟨0,0,rfl,rfl,Nat.zero_le _,rfl,by omega,fun h=>by omega⟩
  case round =>
   obtain⟨r,n,rfl,rfl,hr,hn,hhi,hr1⟩:=hrel
   have HN:=zxi hn
   obtain⟨A,hA⟩:∃ A,n/K=A:=⟨_,rfl⟩
   have e2:(n:Int)/2^k=(A:Int):=by rw[← hA,← HK.out];push_cast;rfl
   have HA:=zxi hA
   have HR1:=zxi hr1
   clear hn hr1
   by_cases hlt:n<K
   · have hA0:A=0:=by rw[← hA];exact Nat.div_eq_of_lt hlt
     subst hA0
     clear hA
     by_cases hrl:r<D.length
     · obtain⟨y,hy⟩:∃ y,48+D.getD r 0=y:=⟨_,rfl⟩
       have hx9:=HD.out.getD r
       have c2:=H.out.at_ (HC.out.getD hrl)
       rw[hy] at c2
       have HY:=zxi hy
       have hy1:48≤y:=by omega
       have hy2:y<58:=by omega
       have g3:(0:Int)≤(r:Int):=by omega
       have g4:(r:Int)<800:=by omega
       clear hy hx9
       go_wp2_with fail
       go_round
       case rel=>exact⟨r+1,n*10+D.getD r 0,by go_num,by have:=HY.out;congr 1;omega,by omega,by rw[HN.out];rfl,by have:=HD.out.getD r;omega,fun _=>by omega⟩
       case measure=>simp[intOf];omega
     · obtain rfl:r=D.length:=by omega
       have hnN:n=dv D:=by have:=HN.out;rw[QV D _ zxn] at this;simpa using this
       have hn0:0<n:=by omega
       have k1:((n:Int) == 0)=false:=by simp;omega
       have HNN:=zxi hnN
       clear hnN
       go_wp2_with fail
       go_loop [4,6] (fun rv nv=>∃ r n:Nat,rv = .int .i64 r∧nv = .int .u64 n∧D.length≤r∧r≤820∧n=pre D r∧n<10*K∧0<n) (fun _ nv=>(10*K-(intOf nv).toNat))
       case atStart=>exact⟨D.length,n,rfl,rfl,Nat.le_refl _,by omega,HN.out,hhi,hn0⟩
       case round =>
        obtain⟨r,n,rfl,rfl,hr,hr8,hn,hhi,hn0⟩:=hrel
        have HN:=zxi hn
        obtain⟨A,hA⟩:∃ A,n/K=A:=⟨_,rfl⟩
        have e2:(n:Int)/2^k=(A:Int):=by rw[← hA,← HK.out];push_cast;rfl
        clear hn
        by_cases hlt:n<K
        · have hA0:A=0:=by rw[← hA];exact Nat.div_eq_of_lt hlt
          subst hA0
          clear hA
          go_wp2_with fail
          go_round
          case rel =>
           have hpn:pre D (r+1)=n*10:=by
            rw[HN.out]
            show pre D r*10+D.getD r 0=_
            rw[List.getD_eq_getElem?_getD,List.getElem?_eq_none zxo]
            simp
           have hr20:r+1≤820:=by
            have h2:=qil HL.out (r+1) zxo
            rw[hpn,Nat.add_sub_cancel] at h2
            have h4:10^r<10^20:=by have:(10:Nat)^20=100000000000000000000:=by decide
                                   omega
            have:=(Nat.pow_lt_pow_iff_right (show 1<10 by decide)).1 h4
            omega
           exact⟨r+1,n*10,by go_num,by go_num,by omega,hr20,hpn.symm,by omega,by omega⟩
          case measure=>simp[intOf];omega
        · have hA0:A≠0:=by
           have:=Nat.div_pos (Nat.le_of_not_lt hlt) hK0
           omega
          have k2:((A:Int) == 0)=false:=by simp;omega
          clear hA
          go_wp2_with fail
          go_meet
          exact⟨r,n,rfl,rfl,qqY HL.out hk zxo HN.out (by rw[HK.out];omega) (by rw[HK.out];omega),rfl⟩
   · have hA0:A≠0:=by
      have:=Nat.div_pos (Nat.le_of_not_lt hlt) hK0
      omega
     have k2:((A:Int) == 0)=false:=by simp;omega
     clear hA
     go_wp2_with fail
     go_meet
     exact⟨r,n,rfl,rfl,qqY HL.out hk (HR1.out zxo) HN.out (by rw[HK.out];omega) (by rw[HK.out];omega),rfl⟩
 case rest =>
  obtain⟨r0,n0,rfl,rfl,hP,rfl⟩:=hcut
  have HP:=zxi hP
  have hr1:=hP.r1
  have hr2:=hP.r2
  clear hP
  obtain⟨m,hm⟩:∃ m,K-1=m:=⟨_,rfl⟩
  have e3:IntKind.u64.wrap (2^k)=(K:Int):=by
   rw[show((2:Int)^k)=((2^k:Nat):Int) by push_cast;rfl,HK.out]
   exact qcB _ zxo
  have e4:IntKind.u64.wrap ((K:Int)-1)=(m:Int):=by
   rw[show(K:Int)-1=(m:Int) by omega]
   exact qcB _ zxo
  have HMA:=zxi (fun n hn=>by have:=qjx n k K HK.out hn hKb;rwa [hm] at this:∀ n:Nat,n<18446744073709551616→bits BinOp.and IntKind.u64 (n:Int) (m:Int)=((n%K:Nat):Int))
  clear hm
  obtain⟨d1,hd1⟩:∃ d1,dp-((r0:Int)-1)=d1:=⟨_,rfl⟩
  go_wp2_with fail
  have HD1:=zxi hd1
  clear hd1 e3 e4
  have HM1:=zxi (H.out.setDp d1)
  have HB1:=zxi ((Below.refl b wc).setCell (p:=⟨b,801,none⟩) zxn (Value.int .i64 d1))
  clear c0 c1 f1
  go_loopw [4,5,6] (fun rv wv nv wr=>∃ (r n:Nat) (W cc:List Nat),rv = .int .i64 r∧wv = .int .i64 W.length∧nv = .int .u64 n∧W.length≤800∧RI D k r0 r n W cc∧Dcm wr b cc (D.length:Int) d1 ng tr∧Below b wc wr) (fun rv _ _ _=>D.length-(intOf rv).toNat)
  case atStart=>exact⟨r0,n0,[],c,rfl,rfl,rfl,by simp,RI.begin_ HP.out HC.out,HM1.out,HB1.out⟩
  case round =>
   obtain⟨r,n,W,cc,rfl,rfl,rfl,hr8,hI,hM,hB⟩:=hrel
   have HI:=zxi hI
   have HM:=zxi hM
   have HB:=zxi hB
   have hrw:=hI.len
   have hhi:=hI.hi
   rw[HK.out] at hhi
   have c0:=hM.nd_
   have c1:=hM.dp_
   have hlen:=hM.len
   clear hI hM hB
   by_cases hlt:r<D.length
   · obtain⟨A,hA⟩:∃ A,n/K=A:=⟨_,rfl⟩
     obtain⟨M,hMd⟩:∃ M,n%K=M:=⟨_,rfl⟩
     have e2:(n:Int)/2^k=(A:Int):=by rw[← hA,← HK.out];push_cast;rfl
     have e5:=HMA.out n zxo
     rw[hMd] at e5
     have hA9:A<10:=by rw[← hA];exact(Nat.div_lt_iff_lt_mul hK0).2 hhi
     have hMK:M<K:=by rw[← hMd];exact Nat.mod_lt _ hK0
     obtain⟨y,hy⟩:∃ y,48+D.getD r 0=y:=⟨_,rfl⟩
     have hx9:=HD.out.getD r
     have c2:=HM.out.at_ (HI.out.hd.getD_drop hlt)
     rw[hy] at c2
     have HY:=zxi hy
     have HA:=zxi hA
     have HMd:=zxi hMd
     have hy1:48≤y:=by omega
     have hy2:y<58:=by omega
     have g3:(0:Int)≤(r:Int):=by omega
     have g4:(r:Int)<800:=by omega
     have hr1':=HI.out.r1
     have g5:(W.length:Int)<800:=by omega
     have f2:=HM.out.thaw W.length
     obtain⟨z,hz⟩:∃ z,wr.cell? ⟨b,W.length,none⟩=some (.int .u8 (z:Nat)):=by
      exact qqx
     have HRW:=zxi hrw
     clear hy hx9 hA hMd hrw hlen
     go_wp2_with fail
     go_roundw
     case rel =>
      have hx9:=HD.out.getD r
      have hy:=HY.out
      have hrw:=HRW.out
      refine⟨r+1,M*10+D.getD r 0,W++[A],cc.set W.length (48+A),by go_num,by rw[List.length_append];rfl,by congr 1;omega,by rw[List.length_append];simp;omega,HI.out.put (by rw[HK.out];exact HA.out) (by rw[HK.out];exact HMd.out) rfl hx9 rfl HM.out.len zxo,?_,?_⟩
      · exact qtj
      · exact HB.out.setCell (p:=⟨b,W.length,none⟩) zxn _
     case measure=>simp[intOf];omega
   · have HRW:=zxi hrw
     clear hrw hlen
     go_wp2_with fail
     go_loopw [5,6] (fun wv nv wr=>∃ (r n:Nat) (W cc:List Nat),wv = .int .i64 W.length∧nv = .int .u64 n∧D.length≤r∧W.length≤800∧RI D k r0 r n W cc∧Dcm wr b cc (D.length:Int) d1 ng tr∧Below b wc wr) (fun wv _ _=>800-(intOf wv).toNat)
     case atStart=>exact⟨r,n,W,cc,rfl,rfl,by omega,hr8,HI.out,HM.out,HB.out⟩
     case round =>
      obtain⟨r,n,W,cc,rfl,rfl,hrD,hr8,hI,hM,hB⟩:=hrel
      have HI:=zxi hI
      have HM:=zxi hM
      have HB:=zxi hB
      have hrw:=hI.len
      have hhi:=hI.hi
      rw[HK.out] at hhi
      have c0:=hM.nd_
      have f0:=hM.thaw 800
      have hlen:=hM.len
      clear hI hM hB
      by_cases hn0:0<n
      · obtain⟨A,hA⟩:∃ A,n/K=A:=⟨_,rfl⟩
        obtain⟨M,hMd⟩:∃ M,n%K=M:=⟨_,rfl⟩
        have e2:(n:Int)/2^k=(A:Int):=by rw[← hA,← HK.out];push_cast;rfl
        have e5:=HMA.out n zxo
        rw[hMd] at e5
        have hA9:A<10:=by rw[← hA];exact(Nat.div_lt_iff_lt_mul hK0).2 hhi
        have hMK:M<K:=by rw[← hMd];exact Nat.mod_lt _ hK0
        have hroom:=HI.out.room HR.out hn0 hrD
        have HA:=zxi hA
        have HMd:=zxi hMd
        have hr1':=HI.out.r1
        have hr2':=HI.out.r2
        have g5:(W.length:Int)<800:=by omega
        have f2:=HM.out.thaw W.length
        obtain⟨z,hz⟩:∃ z,wr.cell? ⟨b,W.length,none⟩=some (.int .u8 (z:Nat)):=by
         exact qqx
        have HRW:=zxi hrw
        have g6:(0:Int)<(n:Int):=by omega
        clear hA hMd hrw hlen
        go_wp2_with fail
        go_roundw
        case rel =>
         have hrw:=HRW.out
         refine⟨r+1,M*10+D.getD r 0,W++[A],cc.set W.length (48+A),by rw[List.length_append];rfl,?_,by omega,by rw[List.length_append];simp;omega,HI.out.put (by rw[HK.out];exact HA.out) (by rw[HK.out];exact HMd.out) rfl (HD.out.getD r) rfl HM.out.len zxo,?_,?_⟩
         · rw[List.getD_eq_getElem?_getD,List.getElem?_eq_none zxo]
           show _=Value.int .u64 ((M*10+0:Nat):Int)
           congr 1
         · exact qtj
         · exact HB.out.setCell (p:=⟨b,W.length,none⟩) zxn _
        case measure=>simp[intOf];omega
      · obtain rfl:n=0:=by omega
        obtain⟨hne,hlead,hhv⟩:=HI.out.done hrD HD1.out.symm
        have hW8:W.length≤800:=hr8
        have HT:=zxi (qft b cc d1 ng tr W (wr.setCell ⟨b,800,none⟩ (.int .i64 W.length)) (HM.out.setNd _) hlead HI.out.dg hW8 HI.out.hw)
        have HB2:=zxi (HB.out.setCell (p:=⟨b,800,none⟩) zxn (Value.int .i64 W.length))
        have HHV:=zxi hhv
        clear hhv hlen hrw
        go_wp2_with fail
        refine HT.out.mono ?_
        rintro e w' ⟨rfl,j,hj0,hj,hz,hj9,hM2,hB3⟩
        have HM2:=zxi hM2
        have HZ:=zxi hz
        have HB3:=zxi (HB2.out.trans hB3)
        have HJ9:=zxi hj9
        clear hM2 hz hB3 hj9
        go_wp2_with fail
        go_end0
        refine⟨rfl,cc,W.take j,d1,?_,HI.out.hw.take j,HI.out.dg.take j,qbi hlead hj0,qc3 hj hj0 HJ9.out,by rw[List.length_take];omega,fun p q hv=>?_,?_,?_,HB3.out⟩
        · rw[List.length_take,Nat.min_eq_left hj];exact HM2.out
        · have h1:=HHV.out p q hv
          rw[qhm hj HZ.out,qc6] at h1
          rw[List.length_take,Nat.min_eq_left hj]
          rwa [show d1-(W.length:Int)+((W.length-j:Nat):Int)=d1-j by omega] at h1
        · have:=HD1.out;omega
        · have:=HD1.out;omega
theorem J1 {D:List Nat} {i:Nat} (h:i<D.length):D.drop i=D.getD i 0::D.drop (i+1):=by
 exact qpV
def qdm (s:ByteArray) (C:List Nat):Prop:=s.size=C.length∧∀ i (h:i<s.size),s[i].toNat=48+C.getD i 0
theorem qgy (b:Nat) (c:List Nat) (nd dp:Int) (ng tr:Bool) (D C:List Nat) (s:ByteArray) (w:World) (h:Dcm w b c nd dp ng tr) (hle:D.length≤800) (hc:Has c 0 D) (hs:qdm s C) (hC:C.length≤1000) (hd:Digs D) (hdc:Digs C) :
  Calls Tryz.prog 250 #[.slice (some ⟨b,0,none⟩) D.length 800,.string s] w fun e w'=>e = .returned (.bool (JD D C))∧∃ n,w'=w.drewN n:=by
 obtain⟨hsz,hsb⟩:=hs
 have HS:=zxi hsz
 have HSB:=zxi hsb
 have HC:=zxi hc
 have H:=zxi h
 have HD:=zxi hd
 have HDC:=zxi hdc
 have hs1:s.size≤1000:=by omega
 clear hsb hc h hd hdc hsz
 go_enter Tryz.func250,Tryz.ntmps250
 go_wp2_with fail
 go_loopw [5] (fun iv wr=>∃ i:Nat,iv = .int .i64 i∧i≤s.size∧JD D C=JD (D.drop i) (C.drop i)∧∃ n,wr=w.drewN n) (fun iv _=>s.size-(intOf iv).toNat)
 case atStart=>exact⟨0,rfl,Nat.zero_le _,by simp,0,rfl⟩
 case round =>
  obtain⟨i,rfl,hi,hp,n,rfl⟩:=hrel
  have HP:=zxi hp
  clear hp
  by_cases hlt:i<s.size
  · by_cases hlD:i<D.length
    · have hlt2:i<C.length:=by have:=HS.out;omega
      have e1:C.drop i=C.getD i 0::C.drop (i+1):=J1 hlt2
      have e2:D.drop i=D.getD i 0::D.drop (i+1):=J1 hlD
      obtain⟨x,hx⟩:∃ x,D.getD i 0=x:=⟨_,rfl⟩
      obtain⟨y,hy⟩:∃ y,C.getD i 0=y:=⟨_,rfl⟩
      have hx9:=HD.out.getD i
      have hy9:=HDC.out.getD i
      have hb:=HSB.out i hlt
      have c1:=H.out.at_ (HC.out.getD hlD)
      rw[hx] at hx9 e2 c1
      rw[hy] at hy9 e1 hb
      rw[e1,e2,JD] at HP
      obtain⟨x1,hx1⟩:∃ x1,48+x=x1:=⟨_,rfl⟩
      obtain⟨y1,hy1⟩:∃ y1,48+y=y1:=⟨_,rfl⟩
      rw[hx1] at c1
      rw[hy1] at hb
      have HX:=zxi hx
      have HY:=zxi hy
      have HX1:=zxi hx1
      have HY1:=zxi hy1
      have g1:(0:Int)≤(i:Int):=by omega
      have g2:(i:Int)<(D.length:Int):=by omega
      have g3:(i:Int)<(s.size:Int):=by omega
      clear hx hy e1 e2
      by_cases he:x=y
      · have k1:((x1:Int) != (y1:Int))=false:=by simp;omega
        clear hx1 hy1
        go_wp2_with fail
        go_quiet (fail)
        go_wp2_with fail
        exact⟨⟨i+1,by go_num,by omega,by rw[HP.out,if_pos he],_,rfl⟩,by simp[intOf];omega⟩
      · have k1:((x1:Int) != (y1:Int))=true:=by simp;omega
        clear hx1 hy1
        go_wp2_with fail
        go_quiet (fail)
        go_wp2_with fail
        go_quiet (fail)
        go_wp2_with fail
        go_ret
        refine⟨?_,⟨_,by rw[World.drewN_drewN,World.drewN_drewN]⟩⟩
        rw[HP.out,if_neg he]
        have h1:=HX1.out
        have h2:=HY1.out
        show Ending.returned (.bool (decide (x1<y1))) = .returned (.bool (decide (x<y)))
        congr 2
        rw[decide_eq_decide]
        omega
    · have hN:JD D C=true:=by
       rw[HP.out,List.drop_eq_nil_of_le (by omega:D.length≤i),J1 (by have:=HS.out;omega:i<C.length)]
       rfl
      go_wp2_with fail
      go_ret
      exact⟨by rw[hN];rfl,_,rfl⟩
  · have hN:JD D C=false:=by
     rw[HP.out,List.drop_eq_nil_of_le (by have:=HS.out;omega:C.length≤i)]
     cases D.drop i<;>rfl
    go_wp2_with fail
    go_ret
    exact⟨by rw[hN];rfl,_,rfl⟩
structure LI (D:List Nat) (K T r p n:Nat) (W c:List Nat):Prop where
 len:r+W.length=D.length
 place:p+W.length=T
 val:n*10^W.length+dv W=dv (D.drop r)*K
 hi:n≤K
 dg:Digs W
 hw:Has c p W
 hd:Has c 0 (D.take r)
theorem LI.begin_ {D c:List Nat} {K T:Nat} (hc:Has c 0 D):LI D K T D.length T 0 [] c where
 len:=rfl
 place:=rfl
 val:=by rw[List.drop_length];simp[dv]
 hi:=Nat.zero_le _
 dg:=Digs.nil
 hw:=Has.nil
 hd:=hc.take _
theorem LI.put {D c W:List Nat} {K T r p n x V:Nat} (h:LI D K T (r+1) (p+1) n W c) (hr:r<D.length) (hT:D.length≤T) (hT8:T≤800) (hlen:c.length=800) (hx:D.getD r 0=x) (hx9:x<10) (hV:n+x*K=V) :
  LI D K T r p (V/10) (V%10::W) (c.set p (48+V%10)) where
 len:=by have:=h.len;rw[List.length_cons];omega
 place:=by have:=h.place;rw[List.length_cons];omega
 val:=by
  have h1:=qn4 n W.length x K (dv (D.drop (r+1))) W rfl h.val
  rw[hV] at h1
  rw[List.length_cons,h1,J1 hr,j9,hx,List.length_drop]
  have:=h.len
  congr 3
  congr 1
  omega
 hi:=by rw[← hV];exact qvP n x K h.hi hx9
 dg:=h.dg.cons (Nat.mod_lt _ zxd)
 hw:=h.hw.cons (by have:=h.place;omega)
 hd:=by
  have h1:=h.hd.take r
  rw[List.take_take,Nat.min_eq_left zxo] at h1
  refine h1.set_off (.inr ?_)
  rw[List.length_take]
  have:=h.len;have:=h.place;omega
theorem LI.out_ {D c W:List Nat} {K T p n:Nat} (h:n*10^W.length+dv W=dv D*K) (hp:p+1+W.length=T) (hn:n≤K) (hd:Digs W) (hw:Has c (p+1) W) (hlt:p<c.length) :
  n/10*10^(n%10::W).length+dv (n%10::W)=dv D*K∧p+(n%10::W).length=T∧n/10≤K∧Digs (n%10::W)∧Has (c.set p (48+n%10)) p (n%10::W):=by
 refine⟨?_,by rw[List.length_cons];omega,by omega,hd.cons (Nat.mod_lt _ zxd),hw.cons hlt⟩
 rw[List.length_cons]
 exact qqs n W.length W _ rfl h
theorem LI.at_ {D c W:List Nat} {K T r p n:Nat} (h:LI D K T (r+1) p n W c) (hr:r<D.length):c[r]?=some (48+D.getD r 0):=by
 have h1:=h.hd.getD (i:=r) (by rw[List.length_take];omega)
 rw[h1,List.getD_eq_getElem?_getD,List.getElem?_take,if_pos zxo,← List.getD_eq_getElem?_getD]
theorem qld (b:Nat) (c:List Nat) (dp:Int) (ng tr:Bool) (D C:List Nat) (k delta pb po cap:Nat) (s:ByteArray) (w:World) (h:Dcm w b c (D.length:Int) dp ng tr) (hl:Lead D) (hd:Digs D) (hc:Has c 0 D)
  (hk1:1≤k) (hk:k≤60) (hdp : -100000≤dp) (hdp2:dp≤100000) (hC:Cheat k delta C) (hs:qdm s C) (hlen:D.length+delta<800)
  (t0:w.cell? ⟨15,0,none⟩=some (.slice (some ⟨pb,po,none⟩) 61 cap)) (t1:w.cell? ⟨pb,po+k*2,none⟩=some (.int .i64 delta)) (t2:w.cell? ⟨pb,po+k*2+1,none⟩=some (.string s)) :
  Calls Tryz.prog 244 #[.pointer (some ⟨b,0,none⟩),.int .u64 (k:Int)] w fun e w'=>e = .returned (.tuple #[])∧qad w b ng tr (fun N z N' z'=>Doubled N z N' z' k) 0 900 D dp w':=by
 have hpos:0<D.length:=List.length_pos_iff.2 hl.ne
 have hDpos:=qms hl
 obtain⟨T,hT⟩:∃ T,lsT D C delta=T:=⟨_,rfl⟩
 have hTl:=qtp hC hd hl
 rw[hT] at hTl
 obtain⟨hT1,hT2,hT3,hT4,hT5⟩:=hTl
 have hTd:(T:Int)=(D.length:Int)+delta-((JD D C).toNat:Nat):=by
  have h0:=hC.d0
  have:(JD D C).toNat≤1:=Bool.toNat_le _
  rw[← hT];unfold lsT;omega
 have hCl:C.length≤1000:=by have:=hC.len;omega
 have hd0:=hC.d0
 have HPX:=zxi (fun w' (n:Nat) (hw:w'=w.drewN n)=>qgy b c (D.length:Int) dp ng tr D C s w' (by rw[hw];exact h.drewN n) zxo hc hs hCl hd hC.dg)
 have HC:=zxi hc
 have HL:=zxi hl
 have HD:=zxi hd
 have H:=zxi h
 have HCh:=zxi hC
 obtain⟨K,hK⟩:∃ K,2^k=K:=⟨_,rfl⟩
 have hKb:K≤1152921504606846976:=by rw[← hK];exact qnY hk
 have hK0:0<K:=by rw[← hK];exact Nat.two_pow_pos k
 rw[hK] at hT1 hT2
 have HK:=zxi hK
 have HT1:=zxi hT1
 have HT2:=zxi hT2
 have HTD:=zxi hTd
 have c0:=h.nd_
 have c1:=h.dp_
 have k0:¬ (k:Int)<0:=by omega
 have k1:(0:Int)≤(k:Int):=by omega
 have k2:(k:Int)<61:=by omega
 have k3:(0:Int)≤(D.length:Int):=by omega
 have k4:(D.length:Int)≤800:=by omega
 clear hc h hl hd hK hC hs hT hT1 hT2 hTd
 go_enter Tryz.func244,Tryz.ntmps244
 go_wp2_with fail
 go_quiet ((go_at_call 250;exact Calls.quiet_of (HPX.out _ _ rfl)))
 generalize hB:JD D C=B at *
 obtain⟨E,hE⟩:∃ E,D.length+E=T:=⟨T-D.length,by omega⟩
 go_upto_if 30 with(fail)
 go_cut [4] (fun s4 wx=>s4 = .int .i64 (E:Int)∧wx=w.drewN nq)
 case first =>
  cases B
  · exact qp3
  · exact qp3
 case rest =>
  obtain⟨rfl,rfl⟩:=hcut
  have hE3:E<800:=by omega
  have e1:(D.length:Int)+(E:Int)=(T:Int):=by omega
  have HM1:=zxi (H.out.drewN nq)
  go_wp2_with fail
  have HE1:=zxi e1
  have hT8:T<800:=by omega
  clear e1 c0 c1 t0 t1 t2
  go_loopw [5,6,7] (fun rv pv nv wr=>∃ (q:Int) (r p n:Nat) (W cc:List Nat),rv = .int .i64 q∧pv = .int .i64 p∧nv = .int .u64 n∧q=(r:Int)-1∧LI D K T r p n W cc∧Dcm wr b cc (D.length:Int) dp ng tr∧Below b w wr) (fun rv _ _ _=>(intOf rv+1).toNat)
  case atStart=>exact⟨_,D.length,T,0,[],c,rfl,rfl,rfl,rfl,LI.begin_ HC.out,HM1.out,qv (Below.refl _ _) nq⟩
  case round =>
   obtain⟨q,r,p,n,W,cc,rfl,rfl,rfl,hq,hI,hM,hB⟩:=hrel
   have HI:=zxi hI
   have HM:=zxi hM
   have HB:=zxi hB
   have hi1:=hI.len
   have hi2:=hI.place
   have hi3:=hI.hi
   have c0:=hM.nd_
   have c1:=hM.dp_
   clear hI hM hB
   by_cases h0:r=0
   · subst h0
     obtain rfl:q = -1:=by omega
     have HI1:=zxi hi1
     have HI2:=zxi hi2
     have HV0:=zxi (show n*10^W.length+dv W=dv D*K by have:=HI.out.val;rwa [List.drop_zero] at this)
     clear hq hi1 hi2
     go_wp2_with fail
     go_loopw [6,7] (fun pv nv wr=>∃ (p n:Nat) (W cc:List Nat),pv = .int .i64 p∧nv = .int .u64 n∧(n*10^W.length+dv W=dv D*K∧p+W.length=T∧n≤K∧Digs W∧Has cc p W)∧Dcm wr b cc (D.length:Int) dp ng tr∧Below b w wr) (fun pv _ _=>(intOf pv).toNat)
     case atStart=>exact⟨p,n,W,cc,rfl,rfl,⟨HV0.out,HI2.out,hi3,HI.out.dg,HI.out.hw⟩,HM.out,HB.out⟩
     case round =>
      obtain⟨p,n,W,cc,rfl,rfl,⟨hv,hp,hn,hdg,hw⟩,hM,hB⟩:=hrel
      have HM:=zxi hM
      have HB:=zxi hB
      have HV:=zxi hv
      have HW:=zxi hw
      have HDG:=zxi hdg
      have c0:=hM.nd_
      have c1:=hM.dp_
      have f0:=hM.thaw 800
      have f1:=hM.thaw 801
      clear hM hB hv hw hdg
      by_cases hn0:0<n
      · have hmT:=qpr HV.out hn0 HT2.out
        obtain⟨p1,rfl⟩:∃ p1,p=p1+1:=⟨p-1,by omega⟩
        obtain⟨Q,hQ⟩:∃ Q,n/10=Q:=⟨_,rfl⟩
        obtain⟨R,hR⟩:∃ R,n%10=R:=⟨_,rfl⟩
        have e4:(n:Int)/10=(Q:Int):=by omega
        have e5:(n:Int)-10*(Q:Int)=(R:Int):=by omega
        have g2:((p1+1:Nat):Int)-1=(p1:Int):=by omega
        have g3:(p1:Int)<800:=by omega
        have g4:(0:Int)<(n:Int):=by omega
        have hR9:R<10:=by omega
        have f2:=HM.out.thaw p1
        obtain⟨z,hz⟩:∃ z,wr.cell? ⟨b,p1,none⟩=some (.int .u8 (z:Nat)):=by
         exact qsA
        have HQ:=zxi hQ
        have HRR:=zxi hR
        have HPP:=zxi hp
        clear hQ hR hp hmT
        go_wp2_with fail
        have ho:=LI.out_ (p:=p1) HV.out HPP.out hn HDG.out HW.out (by have:=HM.out.len;omega)
        rw[HQ.out,HRR.out] at ho
        refine⟨⟨p1,Q,R::W,cc.set p1 (48+R),rfl,rfl,ho,?_,?_⟩,by simp[intOf]⟩
        · exact qsL
        · exact HB.out.setCell (p:=⟨b,p1,none⟩) zxn _
      · obtain rfl:n=0:=by omega
        have hv1:dv W=dv D*K:=by have:=HV.out;simpa using this
        obtain rfl:=qrd rfl HDG.out hv1 hp HT1.out hT5
        have hWT:W.length=T:=by omega
        have hlead:=qpu hWT hT5 HDG.out (by rw[hv1];exact HT1.out)
        have e1:(D.length:Int)+(E:Int)=(W.length:Int):=by omega
        have HM2:=zxi ((HM.out.setNd (W.length:Int)).setDp (dp+E))
        have HB2:=zxi ((HB.out.setCell (p:=⟨b,800,none⟩) zxn (Value.int .i64 W.length)).setCell (p:=⟨b,801,none⟩) zxn (Value.int .i64 (dp+E)))
        have HT:=zxi (qft b cc (dp+E) ng tr W _ HM2.out hlead HDG.out zxo HW.out)
        have HV1:=zxi hv1
        have HWT:=zxi hWT
        have g1:(W.length:Int)<800:=by omega
        have hTDl:T≤D.length+delta:=hT4
        clear hv1 hp hWT
        go_wp2_with fail
        refine HT.out.mono ?_
        rintro e w' ⟨rfl,j,hj0,hj,hz,hj9,hM2,hB3⟩
        have HM2:=zxi hM2
        have HZ:=zxi hz
        have HB3:=zxi (HB2.out.trans hB3)
        have HJ9:=zxi hj9
        clear hM2 hz hB3 hj9
        go_wp2_with fail
        go_end0
        refine⟨rfl,cc,W.take j,dp+E,?_,HW.out.take j,HDG.out.take j,qbi hlead hj0,qc3 hj hj0 HJ9.out,by rw[List.length_take];omega,fun p q hv=>?_,by omega,by have:=HWT.out;omega,HB3.out⟩
        · rw[List.length_take,Nat.min_eq_left hj];exact HM2.out
        · have h1:=qko (k:=k) hv
          rw[HK.out,← HV1.out,qhm hj HZ.out,qc6,← HK.out] at h1
          rw[List.length_take,Nat.min_eq_left hj]
          rwa [show dp-(D.length:Int)+((W.length-j:Nat):Int)=dp+E-j by have:=HE1.out;have:=HWT.out;omega] at h1
   · obtain⟨r1,rfl⟩:∃ r1,r=r1+1:=⟨r-1,by omega⟩
     obtain rfl:q=(r1:Int):=by omega
     obtain⟨p1,rfl⟩:∃ p1,p=p1+1:=⟨p-1,by omega⟩
     have hrD:r1<D.length:=by omega
     obtain⟨x,hx⟩:∃ x,D.getD r1 0=x:=⟨_,rfl⟩
     have hx9:=HD.out.getD r1
     have c2:=HM.out.at_ (HI.out.at_ hrD)
     rw[hx] at hx9 c2
     obtain⟨y,hy⟩:∃ y,48+x=y:=⟨_,rfl⟩
     rw[hy] at c2
     have hxK:x*K≤9*K:=Nat.mul_le_mul_right _ zxo
     obtain⟨X,hX⟩:∃ X,x*K=X:=⟨_,rfl⟩
     rw[hX] at hxK
     obtain⟨V,hV⟩:∃ V,n+X=V:=⟨_,rfl⟩
     obtain⟨Q,hQ⟩:∃ Q,V/10=Q:=⟨_,rfl⟩
     obtain⟨R,hR⟩:∃ R,V%10=R:=⟨_,rfl⟩
     have e1:(y:Int)-48=(x:Int):=by omega
     have e2:IntKind.u64.wrap ((x:Int)*2^k)=(X:Int):=by
      rw[show((x:Int)*2^k)=(X:Int) by rw[← hX,← HK.out];push_cast;rfl]
      exact qcB _ zxo
     have e3:(n:Int)+(X:Int)=(V:Int):=by omega
     have e4:(V:Int)/10=(Q:Int):=by omega
     have e5:(V:Int)-10*(Q:Int)=(R:Int):=by omega
     have g1:(r1:Int)<800:=by omega
     have g2:((p1+1:Nat):Int)-1=(p1:Int):=by omega
     have g3:(p1:Int)<800:=by omega
     have hVb:V<18446744073709551616:=by omega
     have hR9:R<10:=by omega
     have f2:=HM.out.thaw p1
     obtain⟨z,hz⟩:∃ z,wr.cell? ⟨b,p1,none⟩=some (.int .u8 (z:Nat)):=by
      exact qsA
     have HX:=zxi hx
     have HY:=zxi hy
     have HXX:=zxi hX
     have HV:=zxi hV
     have HQ:=zxi hQ
     have HRR:=zxi hR
     have HI1:=zxi hi1
     have HI2:=zxi hi2
     clear hx hy hX hV hQ hR hq hi1 hi2 h0
     go_wp2_with fail
     refine⟨⟨_,r1,p1,Q,R::W,cc.set p1 (48+R),rfl,rfl,rfl,rfl,?_,?_,?_⟩,by simp[intOf]⟩
     · have:=HI.out.put (V:=V) (x:=x) hrD hT3 zxo HM.out.len HX.out hx9 (by rw[HXX.out];exact HV.out)
       rwa [HQ.out,HRR.out] at this
     · exact qsL
     · exact HB.out.setCell (p:=⟨b,p1,none⟩) zxn _
end Go.Proofs.YtacdfjlncfidgaaGreatDoor
