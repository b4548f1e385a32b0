/- A part of what the claim leans on. -/
import Derived.Test.YtacdfjlncfidgaaGreatDoorQS
import Derived.Test.YtacdfjlncfidgaaGreatDoorQN
import Derived.Test.YtacdfjlncfidgaaGreatDoorQG
import Derived.Test.YtacdfjlncfidgaaGreatDoorQM
import Derived.WalkKit
import Derived.WalkMore
import Derived.Scope
namespace Go.Proofs.YtacdfjlncfidgaaGreatDoor
open Go.RowKit
set_option linter.unusedVariables false
set_option linter.unusedSimpArgs false
set_option maxRecDepth 100000
set_option maxHeartbeats 1600000
structure DS (w:World) (b:Nat) (ng tr:Bool) (p q:Nat) (e:Int) (c D:List Nat) (dp:Int):Prop where
 mem:Dcm w b c (D.length:Int) dp ng tr
 has:Has c 0 D
 dg:Digs D
 lead:Lead D
 len:D.length≤782
 val:qei (dv D) (dp-D.length) p q e
theorem DS.drewN {w:World} {b:Nat} {ng tr:Bool} {p q:Nat} {e:Int} {c D:List Nat} {dp:Int} (h:DS w b ng tr p q e c D dp) (n:Nat):DS (w.drewN n) b ng tr p q e c D dp:=⟨h.mem.drewN n,h.has,h.dg,h.lead,h.len,h.val⟩
theorem DS.right {w w':World} {b:Nat} {ng tr:Bool} {p q k:Nat} {e lo hi:Int} {c D:List Nat} {dp:Int} (h:DS w b ng tr p q e c D dp) (hB:Big p q) (h1 : -1200≤e+k) (h2:e+k≤1034)
  (hs:qad w b ng tr (fun N z N' z'=>Halved N z N' z' k) lo hi D dp w'):∃ c' D' dp',DS w' b ng tr p q (e+k) c' D' dp'∧LastNZ D'∧dp+lo≤dp'∧dp'≤dp+hi∧Below b w w':=by
 exact qsN
theorem DS.left {w w':World} {b:Nat} {ng tr:Bool} {p q k:Nat} {e lo hi:Int} {c D:List Nat} {dp:Int} (h:DS w b ng tr p q e c D dp) (hB:Big p q) (h1 : -1200≤e-k) (h2:e-k≤1034)
  (hs:qad w b ng tr (fun N z N' z'=>Doubled N z N' z' k) lo hi D dp w'):∃ c' D' dp',DS w' b ng tr p q (e-k) c' D' dp'∧LastNZ D'∧dp+lo≤dp'∧dp'≤dp+hi∧Below b w w':=by
 exact qsN
def qmt (w:World) (b:Nat) (ng tr:Bool) (p q:Nat) (e:Int) (dp lo hi:Int) (w':World):Prop :=
 ∃ c' D' dp',DS w' b ng tr p q e c' D' dp'∧LastNZ D'∧dp+lo≤dp'∧dp'≤dp+hi∧Below b w w'
def LTab (w:World) (B:Nat):Prop:=∃ pb po cap,15<B∧pb<B∧w.cell? ⟨15,0,none⟩=some (.slice (some ⟨pb,po,none⟩) 61 cap) ∧
 ∀ k,1≤k→k≤60→∃ (delta:Nat) (s:ByteArray) (C:List Nat),w.cell? ⟨pb,po+k*2,none⟩=some (.int .i64 delta)∧w.cell? ⟨pb,po+k*2+1,none⟩=some (.string s)∧Cheat k delta C∧qdm s C
theorem LTab.below {w w':World} {B:Nat} (h:LTab w B) (hb:Below B w w'):LTab w' B:=by
 obtain⟨pb,po,cap,h14,hpb,h1,h2⟩:=h
 refine⟨pb,po,cap,h14,hpb,(hb.cell (p:=⟨15,0,none⟩) h14).trans h1,fun k hk hk2=>?_⟩
 obtain⟨delta,s,C,t1,t2,hc,hs⟩:=h2 k hk hk2
 exact⟨delta,s,C,(hb.cell (p:=⟨pb,_,none⟩) hpb).trans t1,(hb.cell (p:=⟨pb,_,none⟩) hpb).trans t2,hc,hs⟩
theorem qem {k delta:Nat} {C:List Nat} (h:Cheat k delta C) (hk:k≤53):delta≤16:=by
 have h1:=h.lo
 have h2:2^k≤9007199254740992:=Nat.pow_le_pow_right (n:=2) zxd hk
 have h3:10^(delta-1)<10^16:=by have:(10:Nat)^16=10000000000000000:=by decide
                                omega
 have:=(Nat.pow_lt_pow_iff_right (show 1<10 by decide)).1 h3
 omega
theorem qao (b:Nat) (ng tr:Bool) (p q:Nat) (e:Int) (c D:List Nat) (dp:Int) (k:Nat) (w:World) (h:DS w b ng tr p q e c D dp) (hB:Big p q) (hk1:1≤k) (hk:k≤53) (h1 : -1200≤e-k) (h2:e-k≤1034) (hT:LTab w b)
  (hdp : -100000≤dp) (hdp2:dp≤100000) :
  Calls Tryz.prog 237 #[.pointer (some ⟨b,0,none⟩),.int .i64 (k:Int)] w fun r w'=>r = .returned (.tuple #[])∧qmt w b ng tr p q (e-k) dp 0 900 w':=by
 obtain⟨pb,po,cap,h14,hpb,t0,ht⟩:=hT
 obtain⟨delta,s,C,t1,t2,hc,hs⟩:=ht k hk1 zxo
 have hd:=qem hc hk
 have hlen:=h.len
 have HS:=zxi (qld b c dp ng tr D C k delta pb po cap s w h.mem h.lead h.dg h.has hk1 zxo hdp hdp2 hc hs zxo t0 t1 t2)
 have H:=zxi h
 have c0:=h.mem.nd_
 have hpos:0<D.length:=List.length_pos_iff.2 h.lead.ne
 have k1:((D.length:Int) == 0)=false:=by rw[beq_eq_false_iff_ne];omega
 have g1:(0:Int)<(k:Int):=by omega
 clear h ht t0 t1 t2 hc hs
 go_enter Tryz.func237,Tryz.ntmps237
 go_wp2_with fail
 go_loopw [1] (fun kv wr=>kv = .int .i64 k∧wr=w) (fun kv _=>1)
 case atStart=>exact⟨rfl,rfl⟩
 case round =>
  obtain⟨rfl,rfl⟩:=hrel
  go_wp2_with fail
  refine HS.out.mono ?_
  rintro r w' ⟨rfl,hp⟩
  have HP:=zxi hp
  clear hp
  go_wp2_with fail
  go_end0
  exact⟨rfl,H.out.left hB h1 h2 HP.out⟩
theorem qbh (b:Nat) (ng tr:Bool) (p q:Nat) (e:Int) (c D:List Nat) (dp:Int) (k:Nat) (w:World) (h:DS w b ng tr p q e c D dp) (hB:Big p q) (hk1:1≤k) (hk:k≤240) (h1 : -1200≤e) (h2:e+k≤1034)
  (hdp : -50000≤dp) (hdp2:dp≤50000) :
  Calls Tryz.prog 237 #[.pointer (some ⟨b,0,none⟩),.int .i64 (-(k:Int))] w fun r w'=>r = .returned (.tuple #[])∧qmt w b ng tr p q (e+k) dp (-3600) 0 w':=by
 have H:=zxi h
 have c0:=h.mem.nd_
 have hpos:0<D.length:=List.length_pos_iff.2 h.lead.ne
 have k1:((D.length:Int) == 0)=false:=by rw[beq_eq_false_iff_ne];omega
 have g1:¬ (0:Int) < -(k:Int):=by omega
 have g2 : -(k:Int)<0:=by omega
 clear h
 go_enter Tryz.func237,Tryz.ntmps237
 go_wp2_with fail
 go_loopw [1] (fun kv wr=>∃ (j i:Nat) (kk:Int) (c D:List Nat) (dp':Int),kv = .int .i64 kk∧kk = -(j:Int)∧k=j+i*60∧1≤j∧DS wr b ng tr p q (e+i*60) c D dp'∧dp-i*900≤dp'∧dp'≤dp∧Below b w wr) (fun kv _=>(- intOf kv).toNat)
 case atStart=>exact⟨k,0,_,c,D,dp,rfl,rfl,by omega,hk1,by simpa using H.out,by omega,by omega,Below.refl _ _⟩
 case round =>
  obtain⟨j,i,kk,c,D,dp',rfl,hkk,hkj,hj1,hD,hlo,hhi,hb⟩:=hrel
  have HD:=zxi hD
  have HB:=zxi hb
  have HKK:=zxi hkk
  have HKJ:=zxi hkj
  by_cases hj:60<j
  · have HR:=zxi (qdt b c dp' ng tr D 60 wr hD.mem hD.lead hD.dg (by have:=hD.len;omega) hD.has zxd zxd (hB.room hD.val zxo zxo) zxo zxo)
    have g3:kk < -60:=by omega
    have g4:kk≤0:=by omega
    have g5 : -300≤kk:=by omega
    clear hD hb hkk hkj
    go_wp2_with fail
    refine HR.out.mono ?_
    rintro r w' ⟨rfl,hp⟩
    have HP:=zxi hp
    clear hp
    go_wp2_with fail
    have hkj:=HKJ.out
    have hkk:=HKK.out
    obtain⟨c',D',d2,hD2,hz,hlo2,hhi2,hb2⟩:=HD.out.right hB zxo zxo HP.out
    refine⟨⟨j-60,i+1,_,c',D',d2,rfl,by omega,by omega,by omega,?_,by omega,by omega,HB.out.trans hb2⟩,by simp[intOf];omega⟩
    rwa [show e+(i:Int)*60+((60:Nat):Int)=e+((i+1:Nat):Int)*60 by omega] at hD2
  · have HR:=zxi (qdt b c dp' ng tr D j wr hD.mem hD.lead hD.dg (by have:=hD.len;omega) hD.has hj1 zxo (hB.room hD.val zxo zxo) zxo zxo)
    have g3:¬ kk < -60:=by omega
    have g4:kk≤0:=by omega
    have g5 : -300≤kk:=by omega
    have g6 : -kk=(j:Int):=by omega
    clear hD hb hkk hkj
    go_wp2_with fail
    refine HR.out.mono ?_
    rintro r w' ⟨rfl,hp⟩
    have HP:=zxi hp
    clear hp
    go_wp2_with fail
    go_end0
    have hkj:=HKJ.out
    obtain⟨c',D',d2,hD2,hz,hlo2,hhi2,hb2⟩:=HD.out.right hB zxo zxo HP.out
    refine⟨rfl,c',D',d2,?_,hz,by omega,by omega,HB.out.trans hb2⟩
    rwa [show e+(i:Int)*60+(j:Int)=e+(k:Int) by omega] at hD2
theorem qjB {P Q p q:Nat} (hQ:0<Q) (hq:0<q) (h:P*q=p*Q):rhe P Q=rhe p q:=by
 rw[← Qe P Q q hq,h,Nat.mul_comm Q q,Qe p q Q hQ]
theorem qh2 (m q:Nat) (hq:0<q):rhe (m*q) q=m:=by
 unfold rhe
 rw[Nat.mul_div_cancel _ hq,Nat.mul_mod_left]
 have h1:decide (q<2*0)=false:=by simp
 have h2:(q == 2*0)=false:=by simp;omega
 rw[h1,h2];rfl
theorem qfK (p q:Nat) (h:2*p≤q) (hq:0<q):rhe p q=0:=by
 have e:p<q:=by omega
 unfold rhe
 rw[Nat.div_eq_of_lt e,Nat.mod_eq_of_lt e]
 have h1:decide (q<2*p)=false:=by simp;omega
 rw[h1]
 simp
def rup (D:List Nat) (n:Nat):Bool :=
 decide (n<D.length)&&(if D.getD n 0=5∧n+1=D.length then decide (0<n)&&decide (D.getD (n-1) 0%2=1) else decide (5≤D.getD n 0))
theorem qbO {D:List Nat} {n:Nat} (h:n<D.length):D.drop n=D.getD n 0::D.drop (n+1):=by
 exact qpV
theorem qif {D:List Nat} (h:LastNZ D) (n:Nat):LastNZ (D.drop n):=by
 intro x hx
 rw[List.getLast?_drop] at hx
 split at hx
 · cases hx
 · exact h x hx
theorem qo0 {D:List Nat} {n:Nat} (hn:n<D.length):dv (D.take n)%2=1↔0<n∧D.getD (n-1) 0%2=1:=by
 cases n with
 | zero=>simp[dv]
 | succ n =>
  rw[JG zxo,qav,Nat.add_sub_cancel]
  omega
theorem qh7 {D:List Nat} {n p q:Nat} (hd:Digs D) (hz:LastNZ D) (hq:0<q) (hv:Val (dv D) ((n:Int)-D.length) p q):pre D n+(rup D n).toNat=rhe p q:=by
 by_cases hn:n<D.length
 · have h2:dv D*10^0*q=p*10^(D.length-n):=(j7 0 (D.length-n) zxo).1 hv
   have hf:0<10^(D.length-n):=Nat.pow_pos zxd
   rw[qjB (P:=p) (Q:=q) (p:=dv D) (q:=10^(D.length-n)) hq hf (by rw[← h2];simp)]
   have e1:dv D=dv (D.take n)*10^(D.length-n)+dv (D.drop n):=by
    conv=>lhs;rw[← List.take_append_drop n D]
    rw[qdC,List.length_drop]
   have e2:dv (D.drop n)<10^(D.length-n):=by rw[← List.length_drop];exact Jz (hd.drop n)
   have e3:dv D/10^(D.length-n)=dv (D.take n):=by
    rw[e1,Nat.mul_comm,Nat.mul_add_div hf,Nat.div_eq_of_lt e2];rfl
   have e4:dv D%10^(D.length-n)=dv (D.drop n):=by
    rw[e1,Nat.mul_comm,Nat.mul_add_mod,Nat.mod_eq_of_lt e2]
   unfold rhe
   rw[e3,e4,qae zxo]
   congr 1
   have hx:=hd.getD n
   have hod:=qo0 hn
   have e5:dv (D.drop n)=D.getD n 0*10^(D.length-n-1)+dv (D.drop (n+1)):=by
    rw[qbO hn,j9,List.length_drop,show D.length-(n+1)=D.length-n-1 by omega]
   have e6:10^(D.length-n)=10*10^(D.length-n-1):=by rw[Nat.mul_comm,← Nat.pow_succ];congr 1;omega
   have e7:dv (D.drop (n+1))<10^(D.length-n-1):=by
    have:=Jz (hd.drop (n+1))
    rwa [List.length_drop,show D.length-(n+1)=D.length-n-1 by omega] at this
   have e8:n+1<D.length→0<dv (D.drop (n+1)):=fun h=>qeq (qif hz _) (by intro e;have:=congrArg List.length e;simp at this;omega)
   have e9:n+1=D.length→dv (D.drop (n+1))=0:=fun h=>by rw[List.drop_eq_nil_of_le zxo];rfl
   have hK:0<10^(D.length-n-1):=Nat.pow_pos zxd
   rw[e5,e6]
   unfold rup
   rw[decide_eq_true hn,Bool.true_and]
   generalize hX:D.getD n 0=x at *
   generalize hR:dv (D.drop (n+1))=R at *
   generalize 10^(D.length-n-1)=K at *
   generalize hY:D.getD (n-1) 0=y at *
   generalize hM:dv (D.take n)=M at *
   by_cases h5:x=5∧n+1=D.length
   · rw[if_pos h5]
     obtain⟨rfl,h6⟩:=h5
     rw[e9 h6]
     have t1:decide (10*K<2*(5*K+0))=false:=by simp;omega
     have t2:(10*K == 2*(5*K+0))=true:=by simp;omega
     rw[t1,t2,Bool.false_or,Bool.true_and]
     congr 1
     rw[Bool.eq_iff_iff]
     simp only[Bool.and_eq_true,decide_eq_true_eq,beq_iff_eq]
     exact hod.symm
   · rw[if_neg h5]
     by_cases h6:5≤x
     · rw[decide_eq_true h6]
       have t1:decide (10*K<2*(x*K+R))=true:=by
        rw[decide_eq_true_eq]
        by_cases h7:x=5
        · have:=e8 zxo
          subst h7
          omega
        · have:6*K≤x*K:=Nat.mul_le_mul_right _ zxo
          omega
       rw[t1];rfl
     · rw[decide_eq_false h6]
       have:x*K≤4*K:=Nat.mul_le_mul_right _ zxo
       have t1:decide (10*K<2*(x*K+R))=false:=by rw[decide_eq_false_iff_not];omega
       have t2:(10*K == 2*(x*K+R))=false:=by rw[beq_eq_false_iff_ne];omega
       rw[t1,t2];rfl
 · have h2:dv D*10^(n-D.length)*q=p*10^0:=(j7 (n-D.length) 0 zxo).1 hv
   rw[Nat.pow_zero,Nat.mul_one] at h2
   rw[← h2,qh2 _ _ hq,QV D n zxo]
   unfold rup
   rw[decide_eq_false hn];rfl
theorem qiy {D:List Nat} {dp:Int} {p q:Nat} (hd:Digs D) (hq:0<q) (hv:Val (dv D) (dp-D.length) p q) (h:dp<0):rhe p q=0:=by
 have:=qfC hv (Jz hd) hq 0 (-dp).toNat zxo
 refine qfK _ _ ?_ hq
 have h2:p*10^1≤p*10^(-dp).toNat:=Nat.mul_le_mul_left _ (Nat.pow_le_pow_right zxd zxo)
 omega
theorem qql (p q k:Nat) (hk:2046≤k) (hq:0<q) (h:q*2^52*2^k≤p):rd p q=9218868437227405312:=by
 unfold rd
 rw[Nat.min_eq_right]
 have h1:2^52*2^k≤p/q:=by
  rw[Nat.le_div_iff_mul_le hq,Nat.mul_comm,← Nat.mul_assoc];exact h
 have h0:p/q≠0:=by
  have:=Nat.mul_pos (Nat.two_pow_pos 52) (Nat.two_pow_pos k)
  omega
 have h2:52+k≤(p/q).log2:=by
  rw[Nat.le_log2 h0]
  rw[← Nat.pow_add] at h1
  exact h1
 have h3:¬ p/q<9007199254740992:=by
  have h4:2^52*2^1≤2^52*2^k:=Nat.mul_le_mul_left _ (Nat.pow_le_pow_right zxd zxo)
  rw[show(9007199254740992:Nat)=2^52*2^1 by decide]
  omega
 have h5:rdD p q=(p/q).log2-52:=by unfold rdD;rw[if_neg h3]
 have h6:4503599627370496≤rhe p (q*2^rdD p q):=by
  refine Nat.le_trans ?_ (qah _ _).1
  rw[Nat.le_div_iff_mul_le (Nat.mul_pos hq (Nat.two_pow_pos _)),h5]
  have e:4503599627370496*(q*2^((p/q).log2-52))=2^((p/q).log2)*q:=by
   exact qte
  rw[e]
  exact(Nat.le_div_iff_mul_le hq).1 (Nat.log2_self_le h0)
 rw[h5] at h6 ⊢
 omega
theorem qjY (p q:Nat) (hq:0<q) (h:2*p≤q):rd p q=0:=by
 have h1:p/q=0:=Nat.div_eq_of_lt zxo
 have h2:rdD p q=0:=by unfold rdD;rw[h1];rfl
 unfold rd
 rw[h2,Nat.pow_zero,Nat.mul_one,qfK p q h hq]
 rfl
theorem qnd (b:Nat) (c D:List Nat) (d:Int) (w:World) (hd:d<0):Calls Tryz.prog 246 #[.pointer (some ⟨b,0,none⟩),.int .i64 d] w fun e w'=>e = .returned (.bool false)∧w=w':=by
 go_enter Tryz.func246,Tryz.ntmps246
 exact qdi
theorem qoq (b:Nat) (c D:List Nat) (dp:Int) (ng:Bool) (n:Nat) (w:World) (h:Dcm w b c (D.length:Int) dp ng false) (hc:Has c 0 D) (hd:Digs D) (hle:D.length≤800) :
  Calls Tryz.prog 246 #[.pointer (some ⟨b,0,none⟩),.int .i64 (n:Int)] w fun e w'=>e = .returned (.bool (rup D n))∧w=w':=by
 obtain⟨L,hL⟩:∃ L,D.length=L:=⟨_,rfl⟩
 have c0:=h.nd_
 have c3:=h.tr_
 rw[hL] at c0
 have g0:¬ (n:Int)<0:=by omega
 have HL:=zxi hL
 by_cases hn:n<D.length
 · obtain⟨x,hx⟩:∃ x,D.getD n 0=x:=⟨_,rfl⟩
   have hx9:=hd.getD n
   have c1:=h.at_ (hc.getD hn)
   rw[hx] at c1 hx9
   obtain⟨y,hy⟩:∃ y,48+x=y:=⟨_,rfl⟩
   rw[hy] at c1
   have g1:¬ (L:Int)≤(n:Int):=by omega
   have g2:(n:Int)<800:=by omega
   have g3:(0:Int)≤(n:Int):=by omega
   by_cases h5:x=5
   · by_cases hl:n+1=D.length
     · have e1:(n:Int)+1=(L:Int):=by omega
       have k1:((y:Int) == 53)=true:=by rw[beq_iff_eq];omega
       by_cases hn0:0<n
       · obtain⟨m,rfl⟩:∃ m,n=m+1:=⟨n-1,by omega⟩
         obtain⟨z,hz⟩:∃ z,D.getD m 0=z:=⟨_,rfl⟩
         have hz9:=hd.getD m
         have c2:=h.at_ (hc.getD (show m<D.length by omega))
         rw[hz] at c2 hz9
         obtain⟨u,hu⟩:∃ u,48+z=u:=⟨_,rfl⟩
         rw[hu] at c2
         have e2:((m+1:Nat):Int)-1=(m:Int):=by omega
         have e3:(u:Int)-48=(z:Int):=by omega
         obtain⟨t,ht⟩:∃ t,z%2=t:=⟨_,rfl⟩
         have e4:(z:Int)%2=(t:Int):=by omega
         have g5:(0:Int)<((m+1:Nat):Int):=by omega
         have g6:(m:Int)<800:=by omega
         have hR:rup D (m+1)=(((t:Int) != 0)):=by
          unfold rup
          rw[decide_eq_true hn,hx,if_pos ⟨h5,hl⟩,Nat.add_sub_cancel,hz,ht]
          simp only[Nat.zero_lt_succ,decide_true,Bool.true_and]
          rw[Bool.eq_iff_iff]
          simp
          omega
         have HR:=zxi hR
         clear h hc hd hx hz hu hy ht hR hL hl hn hle hn0
         exact qiZ
       · obtain rfl:n=0:=by omega
         have hR:rup D 0=false:=by
          unfold rup
          rw[decide_eq_true hn,hx,if_pos ⟨h5,hl⟩]
          rfl
         have HR:=zxi hR
         clear h hc hd hx hy hR hL hl hn hle hn0
         exact qiZ
     · have k1:((y:Int) == 53)=true:=by rw[beq_iff_eq];omega
       have k2:((n:Int)+1 == (L:Int))=false:=by rw[beq_eq_false_iff_ne];omega
       have k3:(53:Int)≤(y:Int):=by omega
       have hR:rup D n=true:=by
        unfold rup
        rw[decide_eq_true hn,hx,if_neg (fun e=>hl e.2),h5]
        rfl
       have HR:=zxi hR
       clear h hc hd hx hy hR hL hl hn hle
       exact qiZ
   · have k1:((y:Int) == 53)=false:=by rw[beq_eq_false_iff_ne];omega
     have hR:rup D n=decide ((53:Int)≤(y:Int)):=by
      unfold rup
      rw[decide_eq_true hn,hx,if_neg (fun e=>h5 e.1),Bool.true_and,decide_eq_decide]
      omega
     have HR:=zxi hR
     clear h hc hd hx hy hR hL hn hle
     exact qiZ
 · have g1:(L:Int)≤(n:Int):=by omega
   have hR:rup D n=false:=by unfold rup;rw[decide_eq_false hn];rfl
   have HR:=zxi hR
   clear h hc hd hR hL hn hle
   exact qiZ
theorem qfx (D:List Nat):∀ (m n:Nat),pre D n≤pre D (n+m)
 | 0,n=>Nat.le_refl _
 | m+1,n=>by
  have:=qfx D m n
  rw[← Nat.add_assoc,pre]
  omega
theorem qe3 (b:Nat) (c D:List Nat) (dp:Int) (ng:Bool) (w:World) (h:Dcm w b c (D.length:Int) dp ng false) (hdp:dp<0) :
  Calls Tryz.prog 238 #[.pointer (some ⟨b,0,none⟩)] w fun e w'=>e = .returned (.int .u64 0)∧w=w':=by
 have c0:=h.nd_
 have c1:=h.dp_
 have g0:¬ (20:Int)<dp:=by omega
 have g1:¬ (0:Int)<dp:=by omega
 have HR:=zxi (qnd b c D dp w hdp)
 clear h
 go_enter Tryz.func238,Tryz.ntmps238
 go_wp2_with fail
 go_loopw [3,4] (fun iv nv wr=>iv = .int .i64 0∧nv = .int .u64 0∧w=wr) (fun _ _ _=>1)
 case atStart=>exact⟨rfl,rfl,rfl⟩
 case round =>
  obtain⟨rfl,rfl,rfl⟩:=hrel
  go_wp2_with fail
  go_loopw [3,4] (fun iv nv wr=>iv = .int .i64 0∧nv = .int .u64 0∧w=wr) (fun _ _ _=>1)
  case atStart=>exact⟨rfl,rfl,rfl⟩
  case round =>
   obtain⟨rfl,rfl,rfl⟩:=hrel
   go_wp2_with (go_at_call 246;refine HR.out.mono ?_;rintro e w' ⟨rfl,rfl⟩)
   go_ret
   exact⟨rfl,rfl⟩
theorem qeG (b:Nat) (c D:List Nat) (n:Nat) (ng:Bool) (w:World) (h:Dcm w b c (D.length:Int) (n:Int) ng false) (hc:Has c 0 D) (hd:Digs D) (hle:D.length≤800) (hn:n≤20) (hpre:pre D n≤9007199254740992) :
  Calls Tryz.prog 238 #[.pointer (some ⟨b,0,none⟩)] w fun e w'=>e = .returned (.int .u64 (pre D n+(rup D n).toNat:Nat))∧w=w':=by
 obtain⟨L,hL⟩:∃ L,D.length=L:=⟨_,rfl⟩
 have c0:=h.nd_
 rw[hL] at c0
 have c1:=h.dp_
 have g0:¬ (20:Int)<(n:Int):=by omega
 have H:=zxi h
 have HC:=zxi hc
 have HD:=zxi hd
 have HR:=zxi (qoq b c D n ng n w h hc hd hle)
 have HL:=zxi hL
 have HLE:=zxi hle
 have hL8:L≤800:=by omega
 have HPM:=zxi (fun i (hi:i≤n)=>by have:=qfx D (n-i) i;rw[show i+(n-i)=n by omega] at this;omega:∀ i,i≤n→pre D i≤9007199254740992)
 clear h hc hd hL hle
 go_enter Tryz.func238,Tryz.ntmps238
 go_wp2_with fail
 go_loopw [3,4] (fun iv nv wr=>∃ i m:Nat,iv = .int .i64 i∧nv = .int .u64 m∧i≤n∧i≤L∧m=pre D i∧w=wr) (fun iv _ _=>n-(intOf iv).toNat)
 case atStart=>exact⟨0,0,rfl,rfl,Nat.zero_le _,Nat.zero_le _,rfl,rfl⟩
 case round =>
  obtain⟨i,m,rfl,rfl,hin,hiL,hm,rfl⟩:=hrel
  have hmb:=HPM.out i hin
  have HM:=zxi hm
  rw[← hm] at hmb
  clear hm
  by_cases hlt:i<n∧i<L
  · obtain⟨hl1,hl2⟩:=hlt
    obtain⟨x,hx⟩:∃ x,D.getD i 0=x:=⟨_,rfl⟩
    have hx9:=HD.out.getD i
    have c2:=H.out.at_ (HC.out.getD (show i<D.length by rw[HL.out];exact hl2))
    rw[hx] at c2 hx9
    obtain⟨y,hy⟩:∃ y,48+x=y:=⟨_,rfl⟩
    rw[hy] at c2
    have e1:(y:Int)-48=(x:Int):=by omega
    have g1:(i:Int)<800:=by omega
    have g2:(i:Int)<(n:Int):=by omega
    have g3:(i:Int)<(L:Int):=by omega
    have HX:=zxi hx
    have HY:=zxi hy
    clear hx hy
    go_wp2_with fail
    refine⟨⟨i+1,m*10+x,by go_num,by go_num,by omega,by omega,by rw[HM.out,← HX.out];rfl,trivial⟩,by simp[intOf];omega⟩
  · have g4:¬ ((i:Int)<(n:Int)∧(i:Int)<(L:Int)):=by omega
    have h5:n=i∨L=i:=by omega
    have H5:=zxi h5
    by_cases h6:(i:Int)<(n:Int)
    · have g7:¬ (i:Int)<(L:Int):=by omega
      clear hlt g4 h5
      go_wp2_with fail
      go_loopw [3,4] (fun iv nv wr=>∃ i m:Nat,iv = .int .i64 i∧nv = .int .u64 m∧i≤n∧L≤i∧m=pre D i∧w=wr) (fun iv _ _=>n-(intOf iv).toNat)
      case atStart=>exact⟨i,m,rfl,rfl,hin,by omega,HM.out,rfl⟩
      case round =>
       obtain⟨i,m,rfl,rfl,hin,hiL,hm,rfl⟩:=hrel
       have hmb:=HPM.out i hin
       have HM:=zxi hm
       rw[← hm] at hmb
       clear hm
       by_cases hl1:i<n
       · have g2:(i:Int)<(n:Int):=by omega
         go_wp2_with fail
         refine⟨⟨i+1,m*10,by go_num,by go_num,by omega,by omega,?_,trivial⟩,by simp[intOf];omega⟩
         rw[HM.out]
         show _=pre D i*10+D.getD i 0
         rw[List.getD_eq_getElem?_getD,List.getElem?_eq_none (by rw[HL.out];exact hiL)]
         rfl
       · obtain rfl:i=n:=by omega
         have hrb:(rup D i).toNat≤1:=Bool.toNat_le _
         cases hru:rup D i
         · exact qlb
         · exact qlb
    · have g7:¬ i<n:=by omega
      obtain rfl:i=n:=by omega
      clear hlt g4 h5
      go_wp2_with fail
      go_loopw [3,4] (fun iv nv wr=>iv = .int .i64 i∧nv = .int .u64 m∧w=wr) (fun iv _ _=>1)
      case atStart=>exact⟨rfl,rfl,rfl⟩
      case round =>
       obtain⟨rfl,rfl,rfl⟩:=hrel
       cases hru:rup D i
       · exact qlb
       · exact qlb
section
open Go
def qo2 (P:Program) (c:Code) (Q:Exit→Act→World→Prop):Exit→Act→World→Prop
 | .goto l,a,w=>∃ r,findLabel c l=some r∧r.wp P (Exit.noGoto Q) a w
 | e,a,w=>Q e a w
theorem qbq {P:Program} {c:Code} {Q:Exit→Act→World→Prop} {a:Act} {w:World} (h:c.wp P (qo2 P c Q) a w):(Code.scope c).wp P Q a w:=by
 intro b k cs
 have close_:∀ (e:Exit) (s s':Act) (v v':World) (d:Code),Exit.noGoto Q e s' v'→Arrives P (lone (b.at s (.code d::.inScope c::k)) cs v) b (.inScope c::k) cs e s' v' →
   ∃ e2 a2 w2,Q e2 a2 w2∧Arrives P (lone (b.at s (.code d::.inScope c::k)) cs v) b k cs e2 a2 w2:=by
  intro e s s' v v' d hq hs
  cases e with
  | normal=>exact⟨.normal,s',v',hq,Steps.trans hs (.one step_inScope)⟩
  | exit id=>exact⟨.exit id,s',v',hq,fun k' hk=>hs k' (by simp[exitTo,hk])⟩
  | goto l=>exact absurd hq (by intro h;exact h)
  | ret=>exact⟨_,s',v',hq,hs⟩
  | panic ch=>exact⟨_,s',v',hq,hs⟩
  | outgrown=>exact⟨_,s',v',hq,hs⟩
 obtain⟨e,s,v,hq,hs⟩:=h b (.inScope c::k) cs
 cases e with
 | normal=>exact⟨.normal,s,v,hq,.head step_scope (Steps.trans hs (.one step_inScope))⟩
 | exit id=>exact⟨.exit id,s,v,hq,fun k' hk=>.head step_scope (hs k' (by simp[exitTo,hk]))⟩
 | goto l =>
  obtain⟨r,hf,hr⟩:=hq
  obtain⟨e2,s2,v2,hq2,hs2⟩:=hr b (.inScope c::k) cs
  obtain⟨e3,s3,v3,hq3,hs3⟩:=close_ e2 s s2 v v2 r hq2 hs2
  exact⟨e3,s3,v3,hq3,.of_steps (.head step_scope (hs _ (by simp[gotoIn,hf]))) hs3⟩
 | ret=>exact⟨_,s,v,hq,.of_steps (.one step_scope) hs⟩
 | panic ch=>exact⟨_,s,v,hq,.of_steps (.one step_scope) hs⟩
 | outgrown=>exact⟨_,s,v,hq,.of_steps (.one step_scope) hs⟩
end
theorem qno (a b:Nat) (ha:a<18446744073709551616) (hb:b<18446744073709551616):bits BinOp.or IntKind.u64 (a:Int) (b:Int)=((a ||| b:Nat):Int):=by
 have h:a ||| b<2^64:=Nat.or_lt_two_pow (by simpa using ha) (by simpa using hb)
 show IntKind.u64.wrap (((BitVec.ofInt 64 (a:Int) ||| BitVec.ofInt 64 (b:Int)).toNat:Nat):Int)=_
 rw[BitVec.toNat_or,BitVec.ofInt_natCast,BitVec.ofInt_natCast,BitVec.toNat_ofNat,BitVec.toNat_ofNat,Nat.mod_eq_of_lt (by simpa using ha),Nat.mod_eq_of_lt (by simpa using hb)]
 exact qcB _ (by simpa using h)
theorem qpy:∀ F:Fin 2048,bits BinOp.and IntKind.i64 ((F.val:Nat):Int) 2047=((F.val:Nat):Int):=by decide +kernel
theorem QU (m F:Nat) (hm:m<18446744073709551616) (hF:F<2048) :
  bits BinOp.or IntKind.u64 (bits BinOp.and IntKind.u64 (m:Int) 4503599627370495) (IntKind.u64.wrap (IntKind.u64.wrap (bits BinOp.and IntKind.i64 (F:Int) 2047)*4503599627370496))=((m%4503599627370496+F*4503599627370496:Nat):Int):=by
 have h1:=qpy ⟨F,hF⟩
 simp only at h1
 have h2:=qjx m 52 4503599627370496 zxd hm zxd
 have h3:((4503599627370496-1:Nat):Int)=4503599627370495:=by decide
 rw[h3] at h2
 rw[h1,h2,qcB F zxo,show(F:Int)*4503599627370496=((F*4503599627370496:Nat):Int) by omega,qcB _ zxo,qno _ _ zxo zxo]
 congr 1
 rw[Nat.add_comm,Nat.mul_comm F]
 have:=Nat.two_pow_add_eq_or_of_lt (i:=52) (b:=m%4503599627370496) (Nat.mod_lt _ zxd) F
 rw[show(2:Nat)^52=4503599627370496 by decide] at this
 rw[this,Nat.or_comm]
def shN (d:Nat):Nat:=[1,3,6,9,13,16,19,23,26].getD d 27
theorem qmb (d:Nat):1≤shN d∧shN d≤27:=by
 rcases Nat.lt_or_ge d 9 with h | h
 · have:∀ d:Fin 9,1≤shN d.val∧shN d.val≤27:=by decide
   exact this ⟨d,h⟩
 · have:shN d=27:=by unfold shN;rw[List.getD_eq_getElem?_getD,List.getElem?_eq_none (by simpa using h)];rfl
   omega
theorem qek (d:Nat) (h:9≤d):shN d=27:=by unfold shN;rw[List.getD_eq_getElem?_getD,List.getElem?_eq_none (by simpa using h)];rfl
theorem qim (d:Nat) (h1:1≤d):2^shN d≤10^d:=by
 rcases Nat.lt_or_ge d 9 with h | h
 · have:∀ d:Fin 9,1≤d.val→2^shN d.val≤10^d.val:=by decide
   exact this ⟨d,h⟩ h1
 · rw[qek d h]
   exact Nat.le_trans (show 2^27≤10^9 by decide) (Nat.pow_le_pow_right zxd h)
structure Mid (p q:Nat):Prop where
 q0:0<q
 p0:0<p
 hi:∀ k,310≤k→p<q*10^k
 lo:∀ k,331≤k→q≤p*10^k
theorem tt1:(10:Nat)^311<2^1034:=by decide +kernel
theorem tt2:(10:Nat)^331<2^1100:=by decide +kernel
theorem tt3 (a c:Nat) (ha:a=1034) (hc:c=311):10^c<2^a:=by rw[ha,hc];exact tt1
theorem tt4 (a c:Nat) (ha:a=1100) (hc:c=331):10^c<2^a:=by rw[ha,hc];exact tt2
theorem qoa (x y:Nat) (hx:x≤311) (hy:1034≤y):10^x<2^y:=by
 obtain⟨a,ha⟩:∃ a,a=1034:=⟨_,rfl⟩
 obtain⟨c,hc⟩:∃ c,c=311:=⟨_,rfl⟩
 exact Nat.lt_of_le_of_lt (Nat.pow_le_pow_right zxd zxo) (Nat.lt_of_lt_of_le (tt3 a c ha hc) (Nat.pow_le_pow_right zxd zxo))
theorem qkm (x y:Nat) (hx:x≤331) (hy:1100≤y):10^x<2^y:=by
 obtain⟨a,ha⟩:∃ a,a=1100:=⟨_,rfl⟩
 obtain⟨c,hc⟩:∃ c,c=331:=⟨_,rfl⟩
 exact Nat.lt_of_le_of_lt (Nat.pow_le_pow_right zxd zxo) (Nat.lt_of_lt_of_le (tt4 a c ha hc) (Nat.pow_le_pow_right zxd zxo))
theorem quP {p q:Nat} {D:List Nat} {e d:Nat} (hM:Mid p q) (hl:Lead D) (hv:qei (dv D) ((d:Int)-D.length) p q e) (hd:1≤d):e+shN d≤1033:=by
 rcases Nat.lt_or_ge (e+shN d) 1034 with h | h
 · omega
 · exfalso
   have h1:=(jG 0 e zxo).1 hv
   rw[Nat.pow_zero,Nat.mul_one] at h1
   have h2:=qjh h1 (qbR hl) (List.length_pos_iff.2 hl.ne) (d-1) 0 zxo
   rw[Nat.pow_zero,Nat.mul_one] at h2
   obtain⟨t,ht⟩:∃ t,t=310:=⟨_,rfl⟩
   have h3:=hM.hi t zxo
   have h4:=qim d hd
   have h5:10^d=10^(d-1)*10:=by rw[← Nat.pow_succ];congr 1;omega
   have h6:=qoa (t+1) _ zxo h
   have h7:q*(10^(d-1)*2^e)<q*10^t:=by
    refine Nat.lt_of_le_of_lt ?_ h3
    rw[← Nat.mul_assoc,Nat.mul_comm q]
    rw[Nat.mul_assoc]
    exact h2
   have h8:=Nat.lt_of_mul_lt_mul_left h7
   have h9:2^(e+shN d)≤10^(d-1)*2^e*10:=by
    rw[Nat.pow_add,Nat.mul_comm (2^e)]
    calc 2^shN d*2^e≤10^d*2^e:=Nat.mul_le_mul_right _ h4
     _=10^(d-1)*2^e*10:=by rw[h5];grind
   rw[Nat.pow_succ] at h6
   omega
theorem qeX {p q:Nat} {D:List Nat} {e:Int} {dp:Int} (hM:Mid p q) (hd:Digs D) (hv:qei (dv D) (dp-D.length) p q e) (h0:dp≤0) : -1100<e:=by
 by_cases h : -1100<e
 · exact h
 · exfalso
   obtain⟨k,rfl⟩:∃ k:Nat,e = -(k:Int):=⟨(-e).toNat,by omega⟩
   have h1:=(jG k 0 zxo).1 hv
   rw[Nat.pow_zero,Nat.mul_one] at h1
   have h2:=qfC h1 (Jz hd) hM.q0 0 (-dp).toNat zxo
   rw[Nat.pow_zero,Nat.one_mul] at h2
   obtain⟨t,ht⟩:∃ t,t=331:=⟨_,rfl⟩
   have h3:=hM.lo t zxo
   have h4:=qkm t k zxo zxo
   have h5:p*2^k≤p*2^k*10^(-dp).toNat:=Nat.le_mul_of_pos_right _ (Nat.pow_pos zxd)
   have h6:p*10^t<p*2^k:=Nat.mul_lt_mul_of_pos_left h4 hM.p0
   omega
theorem qeM {p q:Nat} {D D':List Nat} {e dp dp':Int} {k:Nat} (hq:0<q) (hd:Digs D) (hl:Lead D') (hv:qei (dv D) (dp-D.length) p q e) (hv':qei (dv D') (dp'-D'.length) p q (e-k))
  (h:(dp<0∧k=shN (-dp).toNat)∨(dp=0∧k=1∧D.getD 0 0<5)) (hne:D≠[]):dp'≤0:=by
 by_cases h1:0<dp'
 · exfalso
   obtain⟨x,y,hxy⟩:∃ x y:Nat,e=(y:Int)-x:=⟨(-e).toNat,e.toNat,by omega⟩
   have a1:=(jG x y hxy).1 hv
   have a2:=(jG (x+k) y zxo).1 hv'
   have a3:=qjh a2 (qbR hl) (List.length_pos_iff.2 hl.ne) (dp'-1).toNat 0 zxo
   rw[Nat.pow_zero,Nat.mul_one] at a3
   have a4:q*2^y≤p*2^(x+k):=Nat.le_trans (Nat.le_mul_of_pos_left _ (Nat.pow_pos zxd)) a3
   rw[Nat.pow_add,← Nat.mul_assoc] at a4
   have hQ:0<q*2^y:=Nat.mul_pos hq (Nat.two_pow_pos y)
   rcases h with⟨h2,rfl⟩ | ⟨rfl,rfl,h5⟩
   · have b1:=qfC a1 (Jz hd) hQ 0 (-dp).toNat zxo
     rw[Nat.pow_zero,Nat.one_mul] at b1
     have b2:=qim (-dp).toNat zxo
     have b3:p*2^x*2^shN (-dp).toNat≤p*2^x*10^(-dp).toNat:=Nat.mul_le_mul_left _ b2
     omega
   · have b0:=(j7 0 D.length zxo).1 a1
     rw[Nat.pow_zero,Nat.mul_one] at b0
     have b1:dv D<5*10^(D.length-1):=by
      cases D with
      | nil=>exact absurd rfl hne
      | cons z Z =>
       rw[j9,List.length_cons,Nat.add_sub_cancel]
       have c1:z<5:=h5
       have c2:=Jz (l:=Z) fun u hu=>hd u (List.mem_cons_of_mem _ hu)
       have c3:z*10^Z.length≤4*10^Z.length:=Nat.mul_le_mul_right _ zxo
       omega
     have b2:10^D.length=10^(D.length-1)*10:=by rw[← Nat.pow_succ];congr 1;have:=List.length_pos_iff.2 hne;omega
     have b3:dv D*2<10^D.length:=by omega
     have b4:p*2^x*10^D.length*2<10^D.length*(q*2^y):=by
      rw[← b0]
      calc dv D*(q*2^y)*2=(dv D*2)*(q*2^y):=by grind
       _<_:=Nat.mul_lt_mul_of_pos_right b3 hQ
     rw[Nat.pow_one] at a4
     have b5:q*2^y*10^D.length≤p*2^x*2*10^D.length:=Nat.mul_le_mul_right _ a4
     have b6:p*2^x*2*10^D.length=p*2^x*10^D.length*2:=by grind
     have b7:q*2^y*10^D.length=10^D.length*(q*2^y):=by grind
     omega
 · omega
theorem qtw {p q:Nat} {D:List Nat} {dp:Int} {d:Nat} (hq:0<q) (hd:Digs D) (hv:qei (dv D) (dp-D.length) p q ((d:Int)-1021)) (h0:dp≤0)
  (hlo:d=0∨(dp=0∧5≤D.getD 0 0)) (K:Nat) (hK:K=1074) :
  rd (p*2^K) q=min (d*4503599627370496+rhe (p*2^K) (q*2^d)) 9218868437227405312∧p*2^K<9007199254740992*(q*2^d)∧(d=0∨4503599627370496*(q*2^d)≤p*2^K):=by
 obtain⟨J,hJ⟩:∃ J,J=1021:=⟨_,rfl⟩
 have a1:=(jG J d zxo).1 hv
 have hQ:0<q*2^d:=Nat.mul_pos hq (Nat.two_pow_pos d)
 have b1:=qfC a1 (Jz hd) hQ 0 (-dp).toNat zxo
 rw[Nat.pow_zero,Nat.one_mul] at b1
 have hK2:2^K=2^J*9007199254740992:=by rw[show(9007199254740992:Nat)=2^53 by decide,← Nat.pow_add];congr 1;omega
 have b2:p*2^J≤p*2^J*10^(-dp).toNat:=Nat.le_mul_of_pos_right _ (Nat.pow_pos zxd)
 have b3:p*2^K=p*2^J*9007199254740992:=by rw[hK2];grind
 have h1:p*2^K<9007199254740992*(q*2^d):=by omega
 suffices hlo':d=0∨4503599627370496*(q*2^d)≤p*2^K by
  exact⟨((QL d _ q hq h1 hlo').rd hq).symm,h1,hlo'⟩
 rcases hlo with h | ⟨rfl,h5⟩
 · exact .inl h
 · right
   have b0:=(j7 0 D.length zxo).1 a1
   rw[Nat.pow_zero,Nat.mul_one] at b0
   have hne:D≠[]:=by intro e;rw[e] at h5;exact absurd h5 zxd
   have c1:5*10^(D.length-1)≤dv D:=by
    cases D with
    | nil=>exact absurd rfl hne
    | cons z Z =>
     rw[j9,List.length_cons,Nat.add_sub_cancel]
     have c1:5≤z:=h5
     have c3:5*10^Z.length≤z*10^Z.length:=Nat.mul_le_mul_right _ c1
     omega
   have c2:10^D.length=10^(D.length-1)*10:=by rw[← Nat.pow_succ];congr 1;have:=List.length_pos_iff.2 hne;omega
   have c3:10^D.length≤dv D*2:=by omega
   have c4:10^D.length*(q*2^d)≤p*2^J*10^D.length*2:=by
    rw[← b0]
    calc 10^D.length*(q*2^d)≤(dv D*2)*(q*2^d):=Nat.mul_le_mul_right _ c3
     _=dv D*(q*2^d)*2:=by grind
   have c5:q*2^d≤p*2^J*2:=by
    refine Nat.le_of_mul_le_mul_left ?_ (Nat.pow_pos (n:=D.length) (show 0<10 by decide))
    calc 10^D.length*(q*2^d)≤p*2^J*10^D.length*2:=c4
     _=10^D.length*(p*2^J*2):=by grind
   omega
theorem qiA {P Q d:Nat} (hQ:0<Q) (h1:P<9007199254740992*Q) (h2:d=0∨4503599627370496*Q≤P):rhe P Q≤9007199254740992∧(d=0∨4503599627370496≤rhe P Q):=by
 have h:=qah P Q
 have h3:P/Q<9007199254740992:=(Nat.div_lt_iff_lt_mul hQ).2 h1
 refine⟨by omega,?_⟩
 rcases h2 with h2 | h2
 · exact .inl h2
 · exact .inr (Nat.le_trans ((Nat.le_div_iff_mul_le hQ).2 h2) h.1)
theorem qeH (b:Nat) (c D:List Nat) (dp:Int) (ng:Bool) (P Q:Nat) (w:World) (h:Dcm w b c (D.length:Int) dp ng false) (hc:Has c 0 D) (hd:Digs D) (hl:Lead D) (hz:LastNZ D) (hle:D.length≤800) (hQ:0<Q)
  (hv:Val (dv D) (dp-D.length) P Q) (hP:P<9007199254740992*Q) :
  Calls Tryz.prog 238 #[.pointer (some ⟨b,0,none⟩)] w fun e w'=>e = .returned (.int .u64 (rhe P Q:Nat))∧w=w':=by
 by_cases h0:dp<0
 · have h1:=qiy hd hQ hv h0
   rw[h1]
   exact qe3 b c D dp ng w h h0
 · obtain⟨n,rfl⟩:∃ n:Nat,dp=n:=⟨dp.toNat,by omega⟩
   have h1:=qh7 hd hz hQ hv
   have hn:n≤20:=by
    rcases Nat.lt_or_ge n 21 with h2 | h2
    · omega
    · exfalso
      have h3:=qjh hv (qbR hl) (List.length_pos_iff.2 hl.ne) (n-1) 0 zxo
      rw[Nat.pow_zero,Nat.mul_one] at h3
      have h4:=Nat.lt_of_mul_lt_mul_right (Nat.lt_of_le_of_lt h3 hP)
      have h5:(10:Nat)^20≤10^(n-1):=Nat.pow_le_pow_right zxd zxo
      have h6:(10:Nat)^20=100000000000000000000:=by decide
      omega
   have h2:=(qiA (d:=0) hQ hP (.inl rfl)).1
   rw[← h1]
   exact qeG b c D n ng w h hc hd hle hn zxo
end Go.Proofs.YtacdfjlncfidgaaGreatDoor
