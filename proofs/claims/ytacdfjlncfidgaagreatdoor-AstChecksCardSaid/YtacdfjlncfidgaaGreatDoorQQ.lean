/- A part of what the claim leans on. -/
import Derived.Test.YtacdfjlncfidgaaGreatDoorQS
import Derived.Test.YtacdfjlncfidgaaGreatDoorQP
namespace Go.Proofs.YtacdfjlncfidgaaGreatDoor
open Go.RowKit
set_option linter.unusedVariables false
set_option linter.unusedSimpArgs false
set_option maxRecDepth 100000
set_option maxHeartbeats 12800000
structure FInf (w:World) (f:Nat):Prop where
 m:w.cell? ⟨f,0,none⟩=some (.int .u64 52)
 x:w.cell? ⟨f,1,none⟩=some (.int .u64 11)
 b:w.cell? ⟨f,2,none⟩=some (.int .i64 (-1023))
theorem FInf.below {w w':World} {f B:Nat} (h:FInf w f) (hb:Below B w w') (hf:f<B):FInf w' f :=
 ⟨(hb.cell (p:=⟨f,0,none⟩) hf).trans h.m,(hb.cell (p:=⟨f,1,none⟩) hf).trans h.x,(hb.cell (p:=⟨f,2,none⟩) hf).trans h.b⟩
def ITab (w:World) (B:Nat):Prop:=∃ tb to_ cap,11<B∧tb<B∧w.cell? ⟨11,0,none⟩=some (.slice (some ⟨tb,to_,none⟩) 9 cap)∧∀ i,i<9→w.cell? ⟨tb,to_+i,none⟩=some (.int .i64 (shN i:Nat))
theorem qee {R dd m:Nat} (h:R=min (dd*4503599627370496+m) 9218868437227405312) (hm:m<4503599627370496) (h5:dd=0∨4503599627370496≤m):m%4503599627370496+0*4503599627370496=R∧(R == 9218868437227405312)=false:=by
 have:R=m:=by omega
 subst this
 exact qn5
theorem qe7 {R dd m F:Nat} (h:R=min (dd*4503599627370496+m) 9218868437227405312) (hm:¬ m<4503599627370496) (hm2:m<9007199254740992) (hd:¬ 2046≤dd) (hF:F=dd+1):m%4503599627370496+F*4503599627370496=R∧(R == 9218868437227405312)=false:=by
 have:R=dd*4503599627370496+m:=by omega
 subst this
 subst hF
 exact qn5
theorem qdM {R dd m G:Nat} (h:R=min (dd*4503599627370496+m) 9218868437227405312) (hm:m=9007199254740992) (hd:¬ 2045≤dd) (hG:G=dd+2):4503599627370496%4503599627370496+G*4503599627370496=R∧(R == 9218868437227405312)=false:=by
 have:R=dd*4503599627370496+m:=by omega
 subst this
 subst hG
 exact qn5
theorem qi7 {R dd m:Nat} (h:R=min (dd*4503599627370496+m) 9218868437227405312) (h5:dd=0∨4503599627370496≤m) (hd:2046≤dd):R=9218868437227405312:=by omega
theorem qjN {R dd m:Nat} (h:R=min (dd*4503599627370496+m) 9218868437227405312) (hm:m=9007199254740992) (hd:2045≤dd):R=9218868437227405312:=by omega
theorem qrj (n i:Nat):n &&& 2^i=if n.testBit i then 2^i else 0:=by
 exact qtb
theorem qqE (m:Nat) (hm:m<9007199254740992):bits BinOp.and IntKind.u64 (m:Int) 4503599627370496=((if m<4503599627370496 then 0 else 4503599627370496:Nat):Int):=by
 have e:=qh1 m 4503599627370496 zxo zxd
 have e0:((4503599627370496:Nat):Int)=4503599627370496:=rfl
 rw[e0] at e
 rw[e]
 congr 1
 have h:=qrj m 52
 exact qsf
theorem ITab.below {w w':World} {B:Nat} (h:ITab w B) (hb:Below B w w'):ITab w' B:=by
 obtain⟨tb,to_,cap,h9,ht,h1,h2⟩:=h
 exact⟨tb,to_,cap,h9,ht,(hb.cell (p:=⟨11,0,none⟩) h9).trans h1,fun i hi=>(hb.cell (p:=⟨tb,_,none⟩) ht).trans (h2 i hi)⟩
theorem qpa (b f:Nat) (c D:List Nat) (dp:Int) (w:World) (h:Dcm w b c (D.length:Int) dp false false) (hl:D≠[]) (hdp:310<dp) (hF:FInf w f) :
  Calls Tryz.prog 220 #[.pointer (some ⟨b,0,none⟩),.pointer (some ⟨f,0,none⟩)] w fun e w'=>e = .returned (.tuple #[.int .u64 9218868437227405312,.bool true])∧Below b w w':=by
 have c0:=h.nd_
 have c1:=h.dp_
 have c2:=h.ng_
 obtain⟨f0,f1,f2⟩:=hF
 obtain⟨L,hL⟩:∃ L,D.length=L:=⟨_,rfl⟩
 have hL0:L≠0:=by rw[← hL];intro e;exact hl (List.eq_nil_of_length_eq_zero e)
 rw[hL] at c0
 have k1:((L:Int) == 0)=false:=by rw[beq_eq_false_iff_ne];omega
 clear h hl hL
 go_enter Tryz.func220,Tryz.ntmps220
 go_wp2_with fail
 refine qbq ?_
 go_wp2_with fail
 apply wp_goto
 refine⟨_,rfl,?_⟩
 go_wp2_with fail
 go_quiet (fail)
 go_wp2_with fail
 go_step3
 go_wp2_with fail
 go_quiet (fail)
 go_wp2_with fail
 rw[Exit.noGoto_ret]
 go_ret2
 refine⟨?_,qv (Below.refl _ _) _⟩
 have e:=QU 0 2047 zxd zxd
 have e2:bits BinOp.or IntKind.u64 (bits BinOp.and IntKind.u64 0 4503599627370495) (IntKind.u64.wrap (IntKind.u64.wrap (bits BinOp.and IntKind.i64 2047 2047)*4503599627370496))=9218868437227405312:=e
 show Ending.returned (.tuple #[.int .u64 (bits BinOp.or IntKind.u64 (bits BinOp.and IntKind.u64 0 4503599627370495) (IntKind.u64.wrap (IntKind.u64.wrap (bits BinOp.and IntKind.i64 2047 2047)*4503599627370496))),.bool true])=_
 rw[e2]
theorem qox (b f:Nat) (c D:List Nat) (dp:Int) (w:World) (h:Dcm w b c (D.length:Int) dp false false) (hl:D≠[]) (hdp:dp < -330) (hF:FInf w f) :
  Calls Tryz.prog 220 #[.pointer (some ⟨b,0,none⟩),.pointer (some ⟨f,0,none⟩)] w fun e w'=>e = .returned (.tuple #[.int .u64 0,.bool false])∧Below b w w':=by
 have c0:=h.nd_
 have c1:=h.dp_
 have c2:=h.ng_
 obtain⟨f0,f1,f2⟩:=hF
 obtain⟨L,hL⟩:∃ L,D.length=L:=⟨_,rfl⟩
 have hL0:L≠0:=by rw[← hL];intro e;exact hl (List.eq_nil_of_length_eq_zero e)
 rw[hL] at c0
 have k1:((L:Int) == 0)=false:=by rw[beq_eq_false_iff_ne];omega
 clear h hl hL
 go_enter Tryz.func220,Tryz.ntmps220
 go_wp2_with fail
 refine qbq ?_
 go_wp2_with fail
 apply wp_goto
 refine⟨_,rfl,?_⟩
 go_wp2_with fail
 go_quiet (fail)
 go_wp2_with fail
 rw[Exit.noGoto_ret]
 go_ret2
 refine⟨?_,qv (Below.refl _ _) _⟩
 have e:=QU 0 0 zxd zxd
 have e2:bits BinOp.or IntKind.u64 (bits BinOp.and IntKind.u64 0 4503599627370495) (IntKind.u64.wrap (IntKind.u64.wrap (bits BinOp.and IntKind.i64 0 2047)*4503599627370496))=0:=e
 show Ending.returned (.tuple #[.int .u64 (bits BinOp.or IntKind.u64 (bits BinOp.and IntKind.u64 0 4503599627370495) (IntKind.u64.wrap (IntKind.u64.wrap (bits BinOp.and IntKind.i64 0 2047)*4503599627370496))),.bool false])=_
 rw[e2]
theorem qn9 (b f p q:Nat) (c D:List Nat) (dp:Int) (K R:Nat) (hK:K=1074) (hR0:rd (p*2^K) q=R) (w:World) (h:DS w b false false p q 0 c D dp) (hB:Big p q) (hM:Mid p q) (hdp : -330≤dp) (hdp2:dp≤310) (hF:FInf w f) (hf:f<b) (hI:ITab w b) (hT:LTab w b) :
  Calls Tryz.prog 220 #[.pointer (some ⟨b,0,none⟩),.pointer (some ⟨f,0,none⟩)] w fun e w'=>e = .returned (.tuple #[.int .u64 (R:Nat),.bool (R == 9218868437227405312)])∧Below b w w':=by
 have H:=zxi h
 have HR0:=zxi hR0
 have HI:=zxi hI
 have HT:=zxi hT
 have HF:=zxi hF
 have HM:=zxi hM
 have hM0:=hM.q0
 obtain⟨L,hL⟩:∃ L,D.length=L:=⟨_,rfl⟩
 have hL0:L≠0:=by rw[← hL];intro e;exact h.lead.ne (List.eq_nil_of_length_eq_zero e)
 have c0:=h.mem.nd_
 rw[hL] at c0
 have c1:=h.mem.dp_
 have k1:((L:Int) == 0)=false:=by rw[beq_eq_false_iff_ne];omega
 clear h hI hT hF hL hM hR0
 go_enter Tryz.func220,Tryz.ntmps220
 go_wp2_with fail
 refine qbq ?_
 go_wp2_with fail
 clear c0 c1 k1
 go_loopw [6,8] (fun ev nv wr=>∃ (e:Nat) (c D:List Nat) (d:Int),ev = .int .i64 e∧e≤1033∧DS wr b false false p q e c D d ∧ -4000≤d∧d≤310∧Below b w wr) (fun ev _ _=>(1100-intOf ev).toNat)
 case atStart=>exact⟨0,c,D,dp,rfl,by omega,H.out,by omega,hdp2,Below.refl _ _⟩
 case round =>
  obtain⟨e,c,D,d,rfl,he,hD,hd1,hd2,hb⟩:=hrel
  have HD:=zxi hD
  have HB:=zxi hb
  have c1:=hD.mem.dp_
  clear hD hb
  by_cases hpos:0<d
  · obtain⟨x,rfl⟩:∃ x:Nat,d=x:=⟨d.toNat,by omega⟩
    have hup:=quP HM.out HD.out.lead HD.out.val zxo
    have hsn:=qmb x
    obtain⟨tb,to_,cap,h9,ht9,t0,t1⟩:=HI.out.below HB.out
    have hs:=fun n:Nat=>qbh b false false p q (e:Int) c D x (shN x) (wr.drewN n) (HD.out.drewN n) hB zxo zxo zxo zxo zxo zxo
    have HUP:=zxi hup
    have HSN:=zxi hsn
    clear hup hsn
    by_cases hx9:9≤x
    · rw[qek x hx9] at hs HUP
      have HS:=zxi hs
      clear hs t1
      go_wp2_with fail
      go_quiet (fail)
      go_wp2_with fail
      refine(HS.out _).mono ?_
      rintro r w' ⟨rfl,c',D',d',hD',hz',hlo,hhi,hb'⟩
      have HD2:=zxi hD'
      have HB2:=zxi ((qv HB.out _).trans hb')
      have HZ:=zxi hz'
      have hup:=HUP.out
      clear hD' hb' hz'
      go_wp2_with fail
      refine⟨⟨e+27,c',D',d',by go_num,by omega,?_,by omega,by omega,HB2.out⟩,by simp[intOf];omega⟩
      exact HD2.out
    · have t2:=t1 x zxo
      obtain⟨n,hn⟩:∃ n,shN x=n:=⟨_,rfl⟩
      rw[hn] at hs t2
      have HS:=zxi hs
      have HN:=zxi hn
      have hup:=HUP.out
      have hsn:=HSN.out
      rw[hn] at hup hsn
      clear hs t1 hn
      go_wp2_with fail
      go_quiet (fail)
      go_wp2_with fail
      go_quiet (fail)
      go_wp2_with fail
      refine(HS.out _).mono ?_
      rintro r w' ⟨rfl,c',D',d',hD',hz',hlo,hhi,hb'⟩
      have HD2:=zxi hD'
      have HB2:=zxi ((qv HB.out _).trans hb')
      have HZ:=zxi hz'
      clear hD' hb' hz'
      go_wp2_with fail
      refine⟨⟨e+n,c',D',d',by go_num,by omega,?_,by omega,by omega,HB2.out⟩,by simp[intOf];omega⟩
      exact HD2.out
  · go_wp2_with fail
    go_loopw [6,9] (fun ev nv wr=>∃ (e:Int) (c D:List Nat) (d:Int),ev = .int .i64 e ∧ -1100<e∧e≤1033∧DS wr b false false p q e c D d ∧ -4000≤d∧d≤0∧Below b w wr) (fun ev _ _=>(intOf ev+1200).toNat)
    case atStart=>exact⟨e,c,D,d,rfl,by omega,by omega,HD.out,hd1,by omega,HB.out⟩
    case round =>
     obtain⟨e,c,D,d,rfl,he1,he2,hD,hd1,hd2,hb⟩:=hrel
     have HD:=zxi hD
     have HB:=zxi hb
     have c1:=hD.mem.dp_
     have hne:=hD.lead.ne
     have hpos:0<D.length:=List.length_pos_iff.2 hne
     have c2:=hD.mem.at_ (hD.has.getD hpos)
     clear hD hb
     obtain⟨z,hz⟩:∃ z,48+D.getD 0 0=z:=⟨_,rfl⟩
     rw[hz] at c2
     have HZ0:=zxi hz
     have HNE:=zxi hne
     have hz48:48≤z:=by omega
     clear hz hne hpos
     by_cases hn:d<0
     · obtain⟨x,hx⟩:∃ x:Nat,-d=x:=⟨(-d).toNat,by omega⟩
       have hsn:=qmb x
       obtain⟨tb,to_,cap,h9,ht9,t0,t1⟩:=HI.out.below HB.out
       have hs:=fun n:Nat=>qao b false false p q e c D d (shN x) (wr.drewN n) (HD.out.drewN n) hB zxo zxo zxo zxo (HT.out.below (qv HB.out n)) zxo zxo
       have hxn:(-d).toNat=x:=by omega
       have HXN:=zxi hxn
       clear hxn
       by_cases hx9:9≤x
       · have h27:=qek x hx9
         rw[h27] at hs
         have HS:=zxi hs
         have H27:=zxi h27
         clear hs t1 hsn h27
         go_wp2_with fail
         go_quiet (fail)
         go_wp2_with fail
         refine(HS.out _).mono ?_
         rintro r w' ⟨rfl,c',D',d',hD',hz',hlo,hhi,hb'⟩
         have HD2:=zxi hD'
         have HB2:=zxi ((qv HB.out _).trans hb')
         have hle:=qeM hM0 HD.out.dg hD'.lead HD.out.val hD'.val (.inl ⟨hn,by rw[HXN.out];exact H27.out.symm⟩) HNE.out
         have hdn:=qeX HM.out hD'.dg hD'.val hle
         clear hD' hb' hz'
         go_wp2_with fail
         exact⟨⟨e-27,c',D',d',by go_num,by omega,by omega,HD2.out,by omega,hle,HB2.out⟩,by simp[intOf];omega⟩
       · have t2:=t1 x zxo
         obtain⟨n,hnn⟩:∃ n,shN x=n:=⟨_,rfl⟩
         rw[hnn] at hs t2 hsn
         have HS:=zxi hs
         have HN:=zxi hnn
         clear hs t1 hnn
         go_wp2_with fail
         go_quiet (fail)
         go_wp2_with fail
         go_quiet (fail)
         go_wp2_with fail
         refine(HS.out _).mono ?_
         rintro r w' ⟨rfl,c',D',d',hD',hz',hlo,hhi,hb'⟩
         have HD2:=zxi hD'
         have HB2:=zxi ((qv HB.out _).trans hb')
         have hle:=qeM hM0 HD.out.dg hD'.lead HD.out.val hD'.val (.inl ⟨hn,by rw[HXN.out];exact HN.out.symm⟩) HNE.out
         have hdn:=qeX HM.out hD'.dg hD'.val hle
         clear hD' hb' hz'
         go_wp2_with fail
         exact⟨⟨e-n,c',D',d',by go_num,by omega,by omega,HD2.out,by omega,hle,HB2.out⟩,by simp[intOf];omega⟩
     · obtain rfl:d=0:=by omega
       by_cases hz5:z<53
       · obtain⟨tb,to_,cap,h9,ht9,t0,t1⟩:=HI.out.below HB.out
         have t2:wr.cell? ⟨tb,to_,none⟩=some (.int .i64 1):=t1 0 zxd
         have hs:=fun n:Nat=>qao b false false p q e c D 0 1 (wr.drewN n) (HD.out.drewN n) hB zxo zxo zxo zxo (HT.out.below (qv HB.out n)) zxo zxo
         have HS:=zxi hs
         clear hs t1
         go_wp2_with fail
         go_quiet (fail)
         go_wp2_with fail
         go_quiet (fail)
         go_wp2_with fail
         refine(HS.out _).mono ?_
         rintro r w' ⟨rfl,c',D',d',hD',hz',hlo,hhi,hb'⟩
         have HD2:=zxi hD'
         have HB2:=zxi ((qv HB.out _).trans hb')
         have hle:=qeM hM0 HD.out.dg hD'.lead HD.out.val hD'.val (.inr ⟨rfl,rfl,by have:=HZ0.out;omega⟩) HNE.out
         have hdn:=qeX HM.out hD'.dg hD'.val hle
         clear hD' hb' hz'
         go_wp2_with fail
         exact⟨⟨e-1,c',D',d',by go_num,by omega,by omega,HD2.out,by omega,hle,HB2.out⟩,by simp[intOf];omega⟩
       · have hD5:5≤D.getD 0 0:=by have:=HZ0.out;omega
         have HD5:=zxi hD5
         obtain⟨f0,f1,f2⟩:=HF.out.below HB.out hf
         clear hD5
         go_upto_if 111 with(fail)
         go_cut [6] (fun s6 wx=>∃ (dd:Nat) (c D:List Nat) (d:Int),s6 = .int .i64 ((dd:Int)-1022)∧dd≤2054∧DS wx b false false p q ((dd:Int)-1021) c D d ∧ -8000≤d∧d≤0∧(dd=0∨(d=0∧5≤D.getD 0 0))∧Below b w wx)
         case first =>
          by_cases hde:e < -1021
          · obtain⟨n,hn⟩:∃ n:Nat,-1022-(e-1)=(n:Int):=⟨(-1021-e).toNat,by omega⟩
            have HS:=zxi (qbh b false false p q e c D 0 n wr HD.out hB zxo zxo zxo zxo zxo zxo)
            have hn2:n≤240:=by omega
            have hde2:e-1 < -1022:=by omega
            go_wp2_with fail
            refine HS.out.mono ?_
            rintro r w' ⟨rfl,c',D',d',hD',hz',hlo,hhi,hb'⟩
            have HD2:=zxi hD'
            have HB2:=zxi (HB.out.trans hb')
            have HNN:=zxi hn
            clear hD' hb' hz' hn
            go_wp2_with fail
            go_meet
            have hn:=HNN.out
            refine⟨0,c',D',d',by congr 1;omega,by omega,?_,by omega,by omega,.inl rfl,HB2.out⟩
            have h1:=HD2.out
            rwa [show e+(n:Int)=((0:Nat):Int)-1021 by omega] at h1
          · obtain⟨dd,hdd⟩:∃ dd:Nat,e=(dd:Int)-1021:=⟨(e+1021).toNat,by omega⟩
            have HDD:=zxi hdd
            have hde2:¬ e-1 < -1022:=by omega
            clear hdd
            go_wp2_with fail
            go_meet
            have hdd:=HDD.out
            exact⟨dd,c,D,0,by congr 1;omega,by omega,by rw[← hdd];exact HD.out,by omega,by omega,.inr ⟨rfl,HD5.out⟩,HB.out⟩
         case rest =>
          obtain⟨dd,c,D,d,rfl,hdd,hD,hd1,hd2,hlo,hb⟩:=hcut
          have HD:=zxi hD
          have HB:=zxi hb
          obtain⟨h1,h2,h3⟩:=qtw hM0 hD.dg hD.val hd2 hlo K hK
          have hQ0:0<q*2^dd:=Nat.mul_pos hM0 (Nat.two_pow_pos dd)
          obtain⟨h4,h5⟩:=qiA hQ0 h2 h3
          obtain⟨P,hP⟩:∃ P,p*2^K=P:=⟨_,rfl⟩
          obtain⟨Q,hQ⟩:∃ Q,q*2^dd=Q:=⟨_,rfl⟩
          obtain⟨m,hm⟩:∃ m,rhe P Q=m:=⟨_,rfl⟩
          have HPd:=zxi hP
          have HQd:=zxi hQ
          have HMd:=zxi hm
          rw[hP,hQ] at h1 h2
          rw[hP,hQ,hm] at h4 h5
          rw[hm] at h1
          rw[hQ] at hQ0
          have h0:=HR0.out
          rw[hP] at h0
          rw[h0] at h1
          have HR:=zxi h1
          have HLT:=zxi h2
          have H5:=zxi h5
          clear h0 h1 h2 h3 h5 hD hb hP hQ hm hlo f0 f1 f2 c1 c2
          obtain⟨f0,f1,f2⟩:=HF.out.below HB.out hf
          obtain⟨F,hF1⟩:∃ F:Nat,F=dd+1:=⟨_,rfl⟩
          have e1:(dd:Int)-1022+1023=(F:Int):=by omega
          have HF1:=zxi hF1
          have hFo:=fun h:2046≤dd=>(show(2047:Int)≤(F:Int) by omega)
          have hFn:=fun h:¬ 2046≤dd=>(show ¬ (2047:Int)≤(F:Int) by omega)
          have HFo:=zxi hFo
          have HFn:=zxi hFn
          clear hF1 hFo hFn
          by_cases hov:2046≤dd
          · have g1:(2047:Int)≤(F:Int):=HFo.out hov
            go_wp2_with fail
            go_quiet (fail)
            go_wp2_with fail
            have HRt:=zxi (qi7 HR.out H5.out hov)
            have HBX:=HB
            have c2:=HD.out.mem.ng_
            exact qtc
          · have g1:¬ (2047:Int)≤(F:Int):=HFn.out hov
            have hs:=fun n:Nat=>qao b false false p q ((dd:Int)-1021) c D d 53 (wc.drewN n) (HD.out.drewN n) hB zxo zxo zxo zxo (HT.out.below (qv HB.out n)) zxo zxo
            have HS:=zxi hs
            clear hs
            go_wp2_with fail
            go_quiet (fail)
            go_wp2_with fail
            refine(HS.out _).mono ?_
            rintro r w' ⟨rfl,c',D',d',hD',hz',hlo,hhi,hb'⟩
            have HB2:=zxi ((qv HB.out _).trans hb')
            have hv:=(jG K dd zxo).1 hD'.val
            rw[HPd.out,HQd.out] at hv
            have hrr:=qeH b c' D' d' false P Q w' hD'.mem hD'.has hD'.dg hD'.lead hz' (by have:=hD'.len;omega) hQ0 hv HLT.out
            rw[HMd.out] at hrr
            have HRR:=zxi hrr
            have c2:=hD'.mem.ng_
            clear hD' hb' hz' hv hrr f0 f1 f2
            obtain⟨f0,f1,f2⟩:=HF.out.below HB2.out hf
            by_cases hm53:m=9007199254740992
            · have HM53:=zxi hm53
              clear hm53 h4
              obtain⟨G,hG⟩:∃ G:Nat,G=dd+2:=⟨_,rfl⟩
              have e3:(dd:Int)-1022+1+1023=(G:Int):=by omega
              have hGb:G≤2056:=by omega
              have HG1:=zxi hG
              have hov3:=fun h:2045≤dd=>(show(2047:Int)≤(G:Int) by omega)
              have hov4:=fun h:¬ 2045≤dd=>(show ¬ (2047:Int)≤(G:Int) by omega)
              have HO3:=zxi hov3
              have HO4:=zxi hov4
              clear hG hov3 hov4
              have kC:(bits BinOp.and IntKind.u64 4503599627370496 4503599627370496 == 0)=false:=by decide +kernel
              have k1:((m:Int) == 9007199254740992)=true:=by rw[beq_iff_eq];have:=HM53.out;omega
              have k2:(m:Int)/2=4503599627370496:=by have:=HM53.out;omega
              by_cases hov2:2045≤dd
              · have g2:(2047:Int)≤(G:Int):=HO3.out hov2
                go_wp2_with fail
                refine HRR.out.mono ?_
                rintro e wz ⟨rfl,rfl⟩
                go_wp2_with fail
                go_quiet (fail)
                go_wp2_with fail
                have HRt:=zxi (qjN HR.out HM53.out hov2)
                have HBX:=HB2
                exact qtc
              · have g2:¬ (2047:Int)≤(G:Int):=HO4.out hov2
                have hG2:G<2047:=by omega
                go_wp2_with fail
                refine HRR.out.mono ?_
                rintro e wz ⟨rfl,rfl⟩
                go_wp2_with fail
                go_quiet (fail)
                go_wp2_with fail
                apply wp_goto
                refine⟨_,rfl,?_⟩
                go_wp2_with fail
                go_quiet (fail)
                go_wp2_with fail
                rw[Exit.noGoto_ret]
                go_ret2
                refine⟨?_,qv HB2.out _⟩
                have e:=QU 4503599627370496 G zxo zxo
                show Ending.returned (.tuple #[.int .u64 (bits BinOp.or IntKind.u64 (bits BinOp.and IntKind.u64 4503599627370496 4503599627370495) (IntKind.u64.wrap (IntKind.u64.wrap (bits BinOp.and IntKind.i64 (G:Int) 2047)*4503599627370496))),.bool false])=_
                rw[show bits BinOp.or IntKind.u64 (bits BinOp.and IntKind.u64 4503599627370496 4503599627370495) (IntKind.u64.wrap (IntKind.u64.wrap (bits BinOp.and IntKind.i64 (G:Int) 2047)*4503599627370496))=((R:Nat):Int) from e.trans (by rw[(qdM HR.out HM53.out hov2 HG1.out).1])]
                rw[(qdM HR.out HM53.out hov2 HG1.out).2]
            · have k1:((m:Int) == 9007199254740992)=false:=by rw[beq_eq_false_iff_ne];omega
              by_cases hm52:m<4503599627370496
              · have kC:(bits BinOp.and IntKind.u64 (m:Int) 4503599627370496 == 0)=true:=by rw[qqE m zxo,if_pos hm52];rfl
                go_wp2_with fail
                refine HRR.out.mono ?_
                rintro e wz ⟨rfl,rfl⟩
                go_wp2_with fail
                apply wp_goto
                refine⟨_,rfl,?_⟩
                go_wp2_with fail
                go_quiet (fail)
                go_wp2_with fail
                rw[Exit.noGoto_ret]
                go_ret2
                refine⟨?_,qv HB2.out _⟩
                have e:=QU m 0 zxo zxo
                show Ending.returned (.tuple #[.int .u64 (bits BinOp.or IntKind.u64 (bits BinOp.and IntKind.u64 (m:Int) 4503599627370495) (IntKind.u64.wrap (IntKind.u64.wrap (bits BinOp.and IntKind.i64 0 2047)*4503599627370496))),.bool false])=_
                rw[show bits BinOp.or IntKind.u64 (bits BinOp.and IntKind.u64 (m:Int) 4503599627370495) (IntKind.u64.wrap (IntKind.u64.wrap (bits BinOp.and IntKind.i64 0 2047)*4503599627370496))=((R:Nat):Int) from e.trans (by rw[(qee HR.out hm52 H5.out).1])]
                rw[(qee HR.out hm52 H5.out).2]
              · have kC:(bits BinOp.and IntKind.u64 (m:Int) 4503599627370496 == 0)=false:=by rw[qqE m zxo,if_neg hm52];rfl
                go_wp2_with fail
                refine HRR.out.mono ?_
                rintro e wz ⟨rfl,rfl⟩
                go_wp2_with fail
                apply wp_goto
                refine⟨_,rfl,?_⟩
                go_wp2_with fail
                go_quiet (fail)
                go_wp2_with fail
                rw[Exit.noGoto_ret]
                go_ret2
                refine⟨?_,qv HB2.out _⟩
                have e:=QU m F zxo zxo
                show Ending.returned (.tuple #[.int .u64 (bits BinOp.or IntKind.u64 (bits BinOp.and IntKind.u64 (m:Int) 4503599627370495) (IntKind.u64.wrap (IntKind.u64.wrap (bits BinOp.and IntKind.i64 (F:Int) 2047)*4503599627370496))),.bool false])=_
                rw[show bits BinOp.or IntKind.u64 (bits BinOp.and IntKind.u64 (m:Int) 4503599627370495) (IntKind.u64.wrap (IntKind.u64.wrap (bits BinOp.and IntKind.i64 (F:Int) 2047)*4503599627370496))=((R:Nat):Int) from e.trans (by rw[(qe7 HR.out hm52 zxo hov HF1.out).1])]
                rw[(qe7 HR.out hm52 zxo hov HF1.out).2]
end Go.Proofs.YtacdfjlncfidgaaGreatDoor
