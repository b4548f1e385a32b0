/- A part of what the claim leans on. -/
import Derived.Test.YtacdfjlncfidgaaGreatDoorQS
import Derived.Test.YtacdfjlncfidgaaGreatDoorQJ
import Derived.Test.YtacdfjlncfidgaaGreatDoorQP
import Derived.Test.YtacdfjlncfidgaaGreatDoorQK
import Derived.Test.YtacdfjlncfidgaaGreatDoorQL
namespace Go.Proofs.YtacdfjlncfidgaaGreatDoor
open Go.RowKit
set_option linter.unusedVariables false
set_option linter.unusedSimpArgs false
set_option maxHeartbeats 1600000
def qwI (i:Nat):Bool:=match Go.Pinned.pow10Rows[i]? with | some x=>qdQ ((i:Int)-348) x.1 x.2 | none=>false
theorem qlA:(List.range 656).all (fun j=>qwI (j+3))=true:=by decide +kernel
theorem qh6 {A B P Q:Nat} (hB:0<B) (hQ:0<Q) (h:A*Q=P*B):unr A B=unr P Q:=by
 rw[← qdh A B Q hQ,h,Nat.mul_comm B Q,qdh P Q B hB]
theorem qkc {p:Int} {hi lo:Nat} (h:qdQ p hi lo=true) (x:Nat) (hx1:9223372036854775808≤x) (hx:x<18446744073709551616) (s:Nat) (hs:8≤s) :
  qpI x hi lo s=unr (x*pwN p) (pwM p*2^(128+s)):=by
 rw[← qpx h x hx1 hx s hs _ rfl]
 unfold qdQ at h
 simp only[Bool.and_eq_true,decide_eq_true_eq] at h
 obtain⟨⟨⟨⟨⟨⟨k1,k2⟩,k3⟩,_⟩,_⟩,_⟩,_⟩:=h
 obtain⟨c1,c2,c3⟩:=qkl x hi lo s hx1 hx k1 zxo k3 zxo _ rfl
 unfold qpI
 by_cases h1:x*hi/18446744073709551616%2^s≠0
 · rw[if_pos h1,c1 h1]
 · rw[if_neg h1]
   have h1':x*hi/18446744073709551616%2^s=0:=by omega
   by_cases h2:x*lo/18446744073709551616≤x*hi%18446744073709551616
   · rw[if_pos h2,c2 h1' h2]
   · rw[if_neg h2,(c3 h1' zxo).1]
theorem qkK {p:Int} {hi lo:Nat} (h:qdQ p hi lo=true):9223372036854775808≤hi∧hi<18446744073709551616∧lo<18446744073709551616∧170141183460469231731687303715884105728*pwM p≤pwN p∧pwN p*9007199254740992≤9007199254740991*340282366920938463463374607431768211456*pwM p:=by
 unfold qdQ at h
 simp only[Bool.and_eq_true,decide_eq_true_eq] at h
 obtain⟨⟨⟨⟨⟨⟨k1,k2⟩,k3⟩,k4⟩,k5⟩,_⟩,_⟩:=h
 refine⟨k1,by omega,k3,k4,?_⟩
 have h1:(hi*18446744073709551616-lo)*9007199254740992≤9007199254740991*340282366920938463463374607431768211456:=by omega
 calc pwN p*9007199254740992≤(hi*18446744073709551616-lo)*pwM p*9007199254740992:=Nat.mul_le_mul_right _ k5
  _=(hi*18446744073709551616-lo)*9007199254740992*pwM p:=by grind
  _≤_:=Nat.mul_le_mul_right _ h1
theorem quR (p:Int) (a b:Nat) (hp:p=(a:Int)-b) (x y:Nat) (h:(127:Int)-lpw p=(x:Int)-y):pwN p*(10^b*2^y)=10^a*2^x*pwM p:=by
 obtain⟨c,ha,hb⟩:∃ c,a=p.toNat+c∧b=(-p).toNat+c:=⟨min a b,by omega,by omega⟩
 obtain⟨d,hx,hy⟩:∃ d,x=(127-lpw p).toNat+d∧y=(lpw p-127).toNat+d:=⟨min x y,by omega,by omega⟩
 unfold pwN pwM
 rw[ha,hb,hx,hy,Nat.pow_add,Nat.pow_add,Nat.pow_add,Nat.pow_add]
 generalize 10^p.toNat=A
 generalize 10^(-p).toNat=B
 generalize 10^c=C
 generalize 2^(127-lpw p).toNat=X
 generalize 2^(lpw p-127).toNat=Y
 generalize 2^d=D
 clear ha hb hx hy hp h
 simp only[Nat.mul_assoc,Nat.mul_comm,Nat.mul_left_comm]
theorem qsv (u:Nat):u/2^0 ||| u%2=u:=by
 rw[Nat.pow_zero,Nat.div_one]
 apply Nat.eq_of_testBit_eq
 intro i
 rw[Nat.testBit_or]
 cases i with
 | zero=>simp[Nat.testBit_zero]
 | succ i =>
  have:(u%2).testBit (i+1)=false:=by
   apply Nat.testBit_lt_two_pow
   have:u%2<2:=Nat.mod_lt _ zxd
   have:2≤2^(i+1):=by rw[Nat.pow_succ];have:=Nat.two_pow_pos i;omega
   omega
  rw[this,Bool.or_false]
theorem qmu {P Q k:Nat} (hQ:0<Q) (h1:k*Q≤P) (h2:P<k*Q+Q):P/Q=k:=by
 apply Nat.le_antisymm
 · have:P/Q<k+1:=(Nat.div_lt_iff_lt_mul hQ).2 (by rw[Nat.add_mul,Nat.one_mul];exact h2)
   omega
 · exact(Nat.le_div_iff_mul_le hQ).2 h1
theorem qaf (n:Nat):(n == n)=true:=by simp
theorem quJ {P Q:Nat} (R:Nat) (h1:36028797018963966*Q≤4*P) (a:R%2=1→2*P<(2*R+1)*Q∧2*R*Q<2*P+Q) (e:R=9007199254740991):False:=by
 obtain⟨b1,_⟩:=a zxo
 have e2:(2*R+1)*Q=18014398509481983*Q:=by rw[e]
 rw[e2] at b1
 clear a e2 e
 omega
theorem qvf {P Q:Nat} (R:Nat) (h1:36028797018963966*Q≤4*P) (a:R%2=1→2*P<(2*R+1)*(2*Q)∧2*R*(2*Q)<2*P+2*Q) (e:R=4503599627370495):False:=by
 obtain⟨b1,_⟩:=a zxo
 have e2:(2*R+1)*(2*Q)=9007199254740991*(2*Q):=by rw[e]
 rw[e2] at b1
 clear a e2 e
 omega
theorem qkg (P Q:Nat) (hQ:0<Q) (h1:36028797018963966*Q≤4*P) (h2:P<9007199254740992*Q):rhe P Q=9007199254740992∧rhe P (2*Q)=4503599627370496:=by
 have a:=JZ P Q hQ
 have b:=JZ P (2*Q) zxo
 have c:=qah P Q
 have d:=qah P (2*Q)
 have e1:P/Q=9007199254740991:=qmu hQ zxo zxo
 have e2:P/(2*Q)=4503599627370495:=qmu zxo zxo zxo
 constructor
 · rcases Nat.lt_or_ge (rhe P Q) 9007199254740992 with h | h
   · have e:rhe P Q=9007199254740991:=by omega
     exact(quJ (rhe P Q) h1 a.2.2 e).elim
   · omega
 · rcases Nat.lt_or_ge (rhe P (2*Q)) 4503599627370496 with h | h
   · have e:rhe P (2*Q)=4503599627370495:=by omega
     exact(qvf (rhe P (2*Q)) h1 b.2.2 e).elim
   · omega
theorem qgP {R dd m:Nat} (h:R=min (dd*4503599627370496+m) 9218868437227405312) (hm:m<4503599627370496) (h5:dd=0∨4503599627370496≤m):R=m∧(R == 9218868437227405312)=false:=by
 have:R=m:=by omega
 exact⟨this,by rw[beq_eq_false_iff_ne];omega⟩
theorem qiU {R dd m:Nat} {e:Int} (h:R=min (dd*4503599627370496+m) 9218868437227405312) (hm:¬ m<4503599627370496) (hm2:m<9007199254740992) (hd:¬ 2046≤dd) (hep:e=(dd:Int)-1074):R=m-4503599627370496+(1075+e).toNat*4503599627370496∧(R == 9218868437227405312)=false:=by
 have h1:R=dd*4503599627370496+m:=by omega
 have h2:(1075+e).toNat=dd+1:=by omega
 exact⟨by rw[h2];omega,by rw[beq_eq_false_iff_ne];omega⟩
theorem qgo {R dd m:Nat} (h:R=min (dd*4503599627370496+m) 9218868437227405312) (h5:dd=0∨4503599627370496≤m) (hd:2046≤dd):R=9218868437227405312:=by omega
theorem qkf {m:Nat} (e:Int) (h:m<4503599627370496):qbf m e=(m,false):=by unfold qbf;rw[if_pos h]
theorem qtG {m:Nat} {e:Int} (h:¬ m<4503599627370496) (h2:972≤e):qbf m e=(9218868437227405312,true):=by unfold qbf;rw[if_neg h,if_pos h2]
theorem qmF {m:Nat} {e:Int} (h:¬ m<4503599627370496) (h2:¬ 972≤e):qbf m e=(m-4503599627370496+(1075+e).toNat*4503599627370496,false):=by unfold qbf;rw[if_neg h,if_neg h2]
theorem qlY {R dd m:Nat} {e:Int} (hep:e=(dd:Int)-1074) (hm:m<9007199254740992) (hR:R=min (dd*4503599627370496+m) 9218868437227405312) (h0:dd=0∨4503599627370496≤m) :
  qbf m e=(R,R == 9218868437227405312):=by
 by_cases h1:m<4503599627370496
 · obtain⟨a,b⟩:=qgP hR h1 h0
   rw[qkf e h1,b,a]
 · by_cases h2:972≤e
   · have hd:2046≤dd:=by omega
     rw[qtG h1 h2,qgo hR h0 hd,qaf]
   · have hd:¬ 2046≤dd:=by omega
     obtain⟨a,b⟩:=qiU hR h1 hm hd (e:=e) hep
     rw[qmF h1 h2,b,a]
theorem qnR {x y:Nat} (h:x=y):2^x=2^y:=by rw[h]
theorem qgp (d k a b dd x y K N M S:Nat) (hpw:N*(10^b*2^y)=10^a*2^x*M) (h:k+dd+x=2+K+S+y) :
  d*2^k*N*(10^b*2^dd)=4*(d*10^a*2^K)*(M*2^S):=by
 apply Nat.eq_of_mul_eq_mul_right (Nat.two_pow_pos y)
 have h2:2^k*2^dd*2^x=4*2^K*2^S*2^y:=by
  rw[show(4:Nat)=2^2 by decide,← Nat.pow_add,← Nat.pow_add,← Nat.pow_add,← Nat.pow_add,← Nat.pow_add]
  exact qnR h
 generalize 2^k=k' at *
 generalize 2^dd=d' at *
 generalize 2^x=x' at *
 generalize 2^y=y' at *
 generalize 2^K=K' at *
 generalize 2^S=S' at *
 generalize 10^a=A at *
 generalize 10^b=B at *
 calc d*k'*N*(B*d')*y'=d*k'*d'*(N*(B*y')):=by grind
  _=d*A*M*(k'*d'*x'):=by rw[hpw];grind
  _=d*A*M*(4*K'*S'*y'):=by rw[h2]
  _=4*(d*A*K')*(M*S')*y':=by grind
theorem qoJ {P Q X N M s:Nat} (hX:X*N*Q=4*P*(M*2^(128+s))) (hx:X<18446744073709551616) (hN:N*9007199254740992≤9007199254740991*340282366920938463463374607431768211456*M) (hM:0<M) (hs:8≤s) (hQ:0<Q) :
  P<18014398509481982*Q:=by
 obtain⟨r,rfl⟩:∃ r,s=8+r:=⟨s-8,by omega⟩
 have hp:2^(128+(8+r))=340282366920938463463374607431768211456*256*2^r:=by
  rw[show 128+(8+r)=128+8+r by omega,Nat.pow_add,Nat.pow_add]
 rw[hp] at hX
 have hr:=Nat.two_pow_pos r
 have h1:4*P*(M*(340282366920938463463374607431768211456*256))≤X*N*Q:=by
  rw[hX]
  have:M*(340282366920938463463374607431768211456*256)≤M*(340282366920938463463374607431768211456*256*2^r):=Nat.mul_le_mul_left _ (Nat.le_mul_of_pos_right _ hr)
  exact Nat.mul_le_mul_left _ this
 have h2:X*N*Q*9007199254740992≤18446744073709551615*(9007199254740991*340282366920938463463374607431768211456*M)*Q:=by
  calc X*N*Q*9007199254740992=X*(N*9007199254740992)*Q:=by grind
   _≤18446744073709551615*(9007199254740991*340282366920938463463374607431768211456*M)*Q:=Nat.mul_le_mul_right _ (Nat.mul_le_mul zxo hN)
 have h3:(4*P*256*9007199254740992)*(M*340282366920938463463374607431768211456)≤(18446744073709551615*9007199254740991*Q)*(M*340282366920938463463374607431768211456):=by
  calc (4*P*256*9007199254740992)*(M*340282366920938463463374607431768211456)=4*P*(M*(340282366920938463463374607431768211456*256))*9007199254740992:=by grind
   _≤X*N*Q*9007199254740992:=Nat.mul_le_mul_right _ h1
   _≤_:=h2
   _=_:=by grind
 have h4:=Nat.le_of_mul_le_mul_right h3 (Nat.mul_pos hM zxd)
 omega
theorem qn7 {P Q X N M:Nat} (hX:X*N*Q=4*P*(M*2^(128+8))) (hx:9223372036854775808≤X) (hN:170141183460469231731687303715884105728*M≤N) (hM:0<M):4503599627370496*Q≤P:=by
 rw[show(2:Nat)^(128+8)=87112285931760246646623899502532662132736 by decide] at hX
 have h1:9223372036854775808*(170141183460469231731687303715884105728*M)*Q≤4*P*(M*87112285931760246646623899502532662132736):=by
  rw[← hX]
  exact Nat.mul_le_mul_right _ (Nat.mul_le_mul hx hN)
 have h2:(9223372036854775808*170141183460469231731687303715884105728*Q)*M≤(4*P*87112285931760246646623899502532662132736)*M:=by
  calc (9223372036854775808*170141183460469231731687303715884105728*Q)*M=9223372036854775808*(170141183460469231731687303715884105728*M)*Q:=by grind
   _≤_:=h1
   _=_:=by grind
 have h3:=Nat.le_of_mul_le_mul_right h2 hM
 omega
theorem qmS (u:Nat):u/2^1 ||| u%2=u/2 ||| u%2:=by rw[Nat.pow_one]
theorem qf8 {P q dd u m:Nat} {t:Bool} (hq:0<q) (hu:unr (4*P) (q*2^dd)=u) (ht:pfT u=t) (hm:((u/2^t.toNat ||| u%2)+1+(u/2^t.toNat ||| u%2)/4%2)/4=m) (hhi:P<18014398509481982*(q*2^dd)) (hlo:dd=0∨4503599627370496*(q*2^dd)≤P) :
  m<9007199254740992∧rd P q=min ((dd+t.toNat)*4503599627370496+m) 9218868437227405312∧(dd+t.toNat=0∨4503599627370496≤m):=by
 have hQ:0<q*2^dd:=Nat.mul_pos hq (Nat.two_pow_pos dd)
 have hthr:=qpm P (q*2^dd) 36028797018963966 hQ zxd
 rw[hu] at hthr
 unfold pfT at ht
 cases t with
 | false =>
  have h1:¬ 36028797018963966≤u:=by simpa using ht
  have h2:¬ 36028797018963966*(q*2^dd)≤4*P:=fun h=>h1 (hthr.2 h)
  simp only[Bool.toNat_false] at hm ⊢
  rw[qsv,← hu,qjA _ _ hQ] at hm
  have h3:P<9007199254740992*(q*2^dd):=by omega
  have h4:=JZ P (q*2^dd) hQ
  have h5:rhe P (q*2^dd)<9007199254740992:=by
   rcases Nat.lt_or_ge (rhe P (q*2^dd)) 9007199254740992 with h | h
   · exact h
   · exfalso
     have a:=h4.2.1
     have b:2*9007199254740992*(q*2^dd)≤2*rhe P (q*2^dd)*(q*2^dd):=Nat.mul_le_mul_right _ zxo
     generalize 2*rhe P (q*2^dd)*(q*2^dd)=Z at *
     omega
  rw[hm] at h5
  refine⟨h5,?_,?_⟩
  · rw[← hm,Nat.add_zero];exact((QL dd P q hq h3 hlo).rd hq).symm
  · rcases hlo with h | h
    · exact .inl zxo
    · right;rw[← hm];exact Nat.le_trans ((Nat.le_div_iff_mul_le hQ).2 h) (qah _ _).1
 | true =>
  have h1:36028797018963966≤u:=by simpa using ht
  have h2:=hthr.1 h1
  simp only[Bool.toNat_true] at hm ⊢
  rw[qmS,← hu,qkJ _ _ hQ,qjA _ _ zxo] at hm
  by_cases hedge:P<9007199254740992*(q*2^dd)
  · obtain⟨e1,e2⟩:=qkg P _ hQ h2 hedge
    have h3:=(QL dd P q hq hedge hlo).rd hq
    rw[e1] at h3
    rw[e2] at hm
    subst hm
    refine⟨by decide,?_,.inr zxn⟩
    rw[← h3,show dd*4503599627370496+9007199254740992=(dd+1)*4503599627370496+4503599627370496 by omega]
  · have e:2*(q*2^dd)=q*2^(dd+1):=by rw[Nat.pow_succ];grind
    have hQ2:0<q*2^(dd+1):=by rw[← e];omega
    rw[e] at hm
    have a1:P<9007199254740992*(q*2^(dd+1)):=by rw[← e];omega
    have a2:4503599627370496*(q*2^(dd+1))≤P:=by rw[← e];omega
    have a3:=(QL (dd+1) P q hq a1 (.inr a2)).rd hq
    rw[hm] at a3
    have h4:=JZ P (q*2^(dd+1)) hQ2
    rw[hm] at h4
    refine⟨?_,a3.symm,.inr (by rw[← hm];exact Nat.le_trans ((Nat.le_div_iff_mul_le hQ2).2 a2) (qah _ _).1)⟩
    rcases Nat.lt_or_ge m 9007199254740992 with h | h
    · exact h
    · exfalso
      have a:=h4.2.1
      have b:2*9007199254740992*(q*2^(dd+1))≤2*m*(q*2^(dd+1)):=Nat.mul_le_mul_right _ zxo
      rw[← e] at a b
      generalize 2*m*(2*(q*2^dd))=Z at *
      omega
theorem qqD (A B:Nat) (hB:0<B) (c:Nat) (h:A<c*B):unr A B≤c:=by
 have h1:A/B<c:=(Nat.div_lt_iff_lt_mul hB).2 h
 rcases JW A B hB with⟨_,h2⟩ | ⟨_,_,h2⟩ | ⟨_,_,h2⟩<;>omega
theorem qsR (p:Int) (h0 : -345≤p) (h1:p≤310) : -1200≤lpw p∧lpw p≤1200:=by unfold lpw;omega
theorem qmm (d:Nat) (p:Int) (K:Nat) (hK:K=1074) (hd:0<d) (hd2:d<18446744073709551616) (hp0 : -345≤p) (hp1:p≤310) :
  PF d p (rd (d*10^p.toNat*2^K) (10^(-p).toNat)) (rd (d*10^p.toNat*2^K) (10^(-p).toNat) == 9218868437227405312):=by
 intro w hG
 obtain⟨i,hi⟩:∃ i:Nat,p+348=(i:Int):=⟨(p+348).toNat,by omega⟩
 have hall:=List.all_eq_true.1 qlA (i-3) (List.mem_range.2 zxo)
 rw[show i-3+3=i by omega] at hall
 unfold qwI at hall
 rcases hx:Go.Pinned.pow10Rows[i]? with _ | x
 · rw[hx] at hall;cases hall
 rw[hx] at hall
 have hrow:qdQ p x.1 x.2=true:=by rw[show p=(i:Int)-348 by omega];exact hall
 obtain⟨t0,t1⟩:=hG.tab i x hx
 obtain⟨hh1,hh,hl,hN1,hN2⟩:=qkK hrow
 obtain⟨hn1,hn64,hdl,hdh⟩:=qcY d hd hd2
 obtain⟨n,hn⟩:∃ n,Lib.bitLen d=n:=⟨_,rfl⟩
 rw[hn] at hn1 hn64 hdl hdh
 obtain⟨hlp0,hlp1⟩:=qsR p hp0 hp1
 obtain⟨lp,hlp⟩:∃ lp,lpw p=lp:=⟨_,rfl⟩
 rw[hlp] at hlp0 hlp1
 obtain⟨k,hk⟩:∃ k:Nat,64-(n:Int)=(k:Int):=⟨64-n,by omega⟩
 obtain⟨e,he⟩:∃ e:Int,min 1074 (53-(n:Int)-lp)=e:=⟨_,rfl⟩
 obtain⟨s,hs⟩:∃ s:Int,-(e-(k:Int)+lp+3)=s:=⟨_,rfl⟩
 have hs8:8≤s:=by omega
 obtain⟨dd,hdd⟩:∃ dd:Nat,1074-e=(dd:Int):=⟨(1074-e).toNat,by omega⟩
 obtain⟨a,ha⟩:∃ a,p.toNat=a:=⟨_,rfl⟩
 obtain⟨b,hb⟩:∃ b,(-p).toNat=b:=⟨_,rfl⟩
 rw[ha,hb]
 have hq:0<10^b:=Nat.pow_pos zxd
 have hQ:0<10^b*2^dd:=Nat.mul_pos hq (Nat.two_pow_pos dd)
 have hM0:=qiX p
 obtain⟨P,hP⟩:∃ P,d*10^a*2^K=P:=⟨_,rfl⟩
 rw[hP]
 have hX1:9223372036854775808≤d*2^k:=by
  rw[show(9223372036854775808:Nat)=2^(n-1)*2^k by rw[← Nat.pow_add,show n-1+k=63 by omega]]
  exact Nat.mul_le_mul_right _ hdl
 have hX2:d*2^k<18446744073709551616:=by
  rw[show(18446744073709551616:Nat)=2^n*2^k by rw[← Nat.pow_add,show n+k=64 by omega]]
  exact Nat.mul_lt_mul_of_pos_right hdh (Nat.two_pow_pos k)
 obtain⟨S,hS⟩:∃ S:Nat,s=(S:Int):=⟨s.toNat,by omega⟩
 have hpw:=quR p a b zxo (127-lp).toNat (lp-127).toNat (by rw[hlp];omega)
 have hcr:=qgp d k a b dd (127-lp).toNat (lp-127).toNat K (pwN p) (pwM p) (128+S) hpw zxo
 rw[hP] at hcr
 have hhi:=qoJ hcr hX2 hN2 hM0 zxo hQ
 have hlo:dd=0∨4503599627370496*(10^b*2^dd)≤P:=by
  rcases Nat.eq_zero_or_pos dd with h | h
  · exact .inl h
  · right
    have:S=8:=by omega
    subst this
    exact qn7 hcr hX1 hN1 hM0
 by_cases h64:64≤s
 · have hz:rd P (10^b)=0:=by
    have hd0:dd=0:=by omega
    subst hd0
    rw[Nat.pow_zero,Nat.mul_one] at hcr
    refine qjY _ _ hq ?_
    have h1:4*P*(pwM p*2^(128+64))≤d*2^k*pwN p*10^b:=by
     rw[hcr]
     exact Nat.mul_le_mul_left _ (Nat.mul_le_mul_left _ (Nat.pow_le_pow_right zxd zxo))
    have h2:d*2^k*pwN p*10^b*9007199254740992≤18446744073709551616*(9007199254740992*340282366920938463463374607431768211456*pwM p)*10^b:=by
     calc d*2^k*pwN p*10^b*9007199254740992=d*2^k*(pwN p*9007199254740992)*10^b:=by grind
      _≤18446744073709551616*(9007199254740992*340282366920938463463374607431768211456*pwM p)*10^b:=Nat.mul_le_mul_right _ (Nat.mul_le_mul zxo (Nat.le_trans hN2 (Nat.mul_le_mul_right _ zxd)))
    rw[show(2:Nat)^(128+64)=340282366920938463463374607431768211456*18446744073709551616 by decide] at h1
    have h3:(4*P)*(pwM p*(340282366920938463463374607431768211456*18446744073709551616*9007199254740992))≤10^b*(pwM p*(340282366920938463463374607431768211456*18446744073709551616*9007199254740992)):=by
     calc (4*P)*(pwM p*(340282366920938463463374607431768211456*18446744073709551616*9007199254740992))=4*P*(pwM p*(340282366920938463463374607431768211456*18446744073709551616))*9007199254740992:=by grind
      _≤d*2^k*pwN p*10^b*9007199254740992:=Nat.mul_le_mul_right _ h1
      _≤_:=h2
      _=_:=by grind
    have h4:=Nat.le_of_mul_le_mul_right h3 (Nat.mul_pos hM0 zxd)
    omega
   rw[hz]
   exact qlg d n x.1 x.2 i p e s lp w zxo hn hn64 hlp hlp0 hlp1 he (by rw[← hs,hk]) hp0 hp1 hi h64 t0 t1
 · have hu:=qkc hrow (d*2^k) hX1 hX2 S zxo
   rw[qh6 (Nat.mul_pos hM0 (Nat.two_pow_pos _)) hQ hcr] at hu
   obtain⟨u,hu'⟩:∃ u,unr (4*P) (10^b*2^dd)=u:=⟨_,rfl⟩
   rw[hu'] at hu
   obtain⟨t,ht⟩:∃ t,pfT u=t:=⟨_,rfl⟩
   obtain⟨m,hm⟩:∃ m,((u/2^t.toNat ||| u%2)+1+(u/2^t.toNat ||| u%2)/4%2)/4=m:=⟨_,rfl⟩
   obtain⟨hm2,hR,h0⟩:=qf8 hq hu' ht hm hhi hlo
   have hpk:=qlY (e := -(e-(t.toNat:Nat))) (dd:=dd+t.toNat) zxo hm2 hR h0
   have hu2:u<144115188075855872:=by
    have:=qqD (4*P) _ hQ 72057594037927928 zxo
    omega
   exact qmU d n k x.1 x.2 i (d*2^k) u _ _ _ m _ t p e s lp _ _ w zxo hn hn64 hlp hlp0 hlp1 he hs hp0 hp1 hi h64 zxo hk rfl hX1 hX2 hh1 hh hl (by rw[hS,Int.toNat_natCast];exact hu) hu2 ht rfl rfl rfl hm hm2 rfl hpk t0 t1
end Go.Proofs.YtacdfjlncfidgaaGreatDoor
