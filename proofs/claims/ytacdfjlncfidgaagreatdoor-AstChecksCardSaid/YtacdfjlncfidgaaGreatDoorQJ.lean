/- A part of what the claim leans on. -/
import Derived.Test.YtacdfjlncfidgaaGreatDoorQS
import Derived.Test.YtacdfjlncfidgaaGreatDoorQG
import Derived.Test.YtacdfjlncfidgaaGreatDoorQB
namespace Go.Proofs.YtacdfjlncfidgaaGreatDoor
open Go.RowKit
set_option linter.unusedVariables false
set_option linter.unusedSimpArgs false
set_option maxHeartbeats 1600000
set_option maxRecDepth 4000
def qhM:Nat→Nat→Nat→Nat→Nat→Nat→Bool
 | 0,_,_,_,_,_=>false
 | f+1,a,m,lo,hi,n =>
  if n=0 then true
  else if a=0 then true
  else if (lo+a-1)/a*a≤hi then decide (n≤(lo+a-1)/a)
  else qhM f (m%a) a (a-hi%a) (a-lo%a) (a*(n-1)/m+1)
theorem qeF:∀ (f a m lo hi n:Nat),qhM f a m lo hi n=true→0<lo→lo≤hi→hi<m→a<m→∀ z,z<n→¬ (lo≤a*z%m∧a*z%m≤hi):=by
 intro f
 induction f with
 | zero=>intro a m lo hi n h;simp[qhM] at h
 | succ f ih =>
  intro a m lo hi n h h0 h1 h2 h3 z hz hr
  obtain⟨r1,r2⟩:=hr
  rw[qhM] at h
  by_cases hn:n=0
  · omega
  rw[if_neg hn] at h
  by_cases ha:a=0
  · subst ha
    rw[Nat.zero_mul,Nat.zero_mod] at r1
    omega
  rw[if_neg ha] at h
  have hap:0<a:=Nat.pos_of_ne_zero ha
  by_cases hc:(lo+a-1)/a*a≤hi
  · rw[if_pos hc] at h
    have hnz:n≤(lo+a-1)/a:=of_decide_eq_true h
    have hle:a*z%m≤a*z:=Nat.mod_le _ _
    have:(lo+a-1)/a≤z:=by
     have hlt:(lo+a-1)/a<z+1:=by
      rw[Nat.div_lt_iff_lt_mul hap,Nat.succ_mul,Nat.mul_comm z a]
      omega
     omega
    omega
  · rw[if_neg hc] at h
    have hq:=Nat.div_add_mod lo a
    have hqm:=Nat.mod_lt lo hap
    have hh:=Nat.div_add_mod hi a
    have hhm:=Nat.mod_lt hi hap
    have hy:=Nat.div_add_mod (a*z) m
    generalize hyv:a*z/m=y at *
    generalize hrv:a*z%m=r at *
    have hrho:0<lo%a:=by
     rcases Nat.eq_zero_or_pos (lo%a) with e | e
     · exfalso
       have e1:(lo+a-1)/a*a=lo:=by
        have:lo=a*(lo/a):=by omega
        have e2:(lo+a-1)/a=lo/a:=by
         rw[Nat.div_eq_iff hap]
         have:lo/a*a=a*(lo/a):=Nat.mul_comm _ _
         omega
        rw[e2,Nat.mul_comm];omega
       omega
     · exact e
    have hup:hi<a*(lo/a)+a:=by
     have e2:(lo+a-1)/a=lo/a+1:=by
      rw[Nat.div_eq_iff hap]
      have e3:(lo/a+1)*a=a*(lo/a)+a:=by rw[Nat.succ_mul,Nat.mul_comm]
      omega
     rw[e2] at hc
     have e3:(lo/a+1)*a=a*(lo/a)+a:=by rw[Nat.succ_mul,Nat.mul_comm]
     omega
    generalize lo/a=q at *
    have hhq:hi/a=q:=by
     rw[Nat.div_eq_iff hap]
     have:q*a=a*q:=Nat.mul_comm _ _
     omega
    rw[hhq] at hh
    have hzq:q<z:=by
     have:a*q<a*z:=by omega
     exact Nat.lt_of_mul_lt_mul_left this
    obtain⟨t,rfl⟩:∃ t,z=q+1+t:=⟨z-q-1,by omega⟩
    have hmy:(m%a)*y%a=a-(r-a*q):=by
     have e1:(m%a)*y%a=m*y%a:=by rw[Nat.mul_mod,Nat.mod_mod,← Nat.mul_mod]
     rw[e1]
     have e2:m*y=a*t+(a-(r-a*q)):=by
      have:a*(q+1+t)=a*q+a+a*t:=by rw[Nat.mul_add,Nat.mul_add,Nat.mul_one]
      omega
     rw[e2,Nat.mul_add_mod,Nat.mod_eq_of_lt zxo]
    refine ih (m%a) a (a-hi%a) (a-lo%a) _ h zxo zxo zxo (Nat.mod_lt _ hap) y ?_ ⟨?_,?_⟩
    · have:y≤a*(n-1)/m:=by
       rw[← hyv]
       exact Nat.div_le_div_right (Nat.mul_le_mul_left _ zxo)
      omega
    · rw[hmy];omega
    · rw[hmy];omega
def qm3 (pm:Nat):Bool :=
 let c:=(9223372036854775808*pm+18446744073709551616)%87112285931760246646623899502532662132736
 let lo:=(87112285931760246646623899502532662132736+1-c)%87112285931760246646623899502532662132736
 let hi:=lo+36893488147419103231
 decide (0<lo)&&decide (hi<87112285931760246646623899502532662132736)&&decide (pm<87112285931760246646623899502532662132736)&&qhM 200 pm 87112285931760246646623899502532662132736 lo hi 9223372036854775808
theorem qey {pm:Nat} (h:qm3 pm=true) (x:Nat) (h1:9223372036854775808≤x) (h2:x<18446744073709551616) :
  ¬ (1≤(x*pm+18446744073709551616)%87112285931760246646623899502532662132736∧(x*pm+18446744073709551616)%87112285931760246646623899502532662132736≤36893488147419103232):=by
 unfold qm3 at h
 simp only[Bool.and_eq_true,decide_eq_true_eq] at h
 obtain⟨⟨⟨k1,k2⟩,k3⟩,k4⟩:=h
 intro ⟨g1,g2⟩
 obtain⟨z,rfl⟩:∃ z,x=z+9223372036854775808:=⟨x-9223372036854775808,by omega⟩
 refine qeF _ _ _ _ _ _ k4 k1 zxo k2 k3 z zxo ?_
 rw[Nat.add_mul] at g1 g2
 rw[Nat.mul_comm pm z]
 generalize z*pm=A at *
 generalize 9223372036854775808*pm=C at *
 omega
def unr (P Q:Nat):Nat:=P/Q ||| (decide (P%Q≠0)).toNat
theorem qdh (P Q c:Nat) (hc:0<c):unr (P*c) (Q*c)=unr P Q:=by
 unfold unr
 rw[Nat.mul_div_mul_right _ _ hc,Nat.mul_mod_mul_right]
 have:decide (P%Q*c≠0)=decide (P%Q≠0):=by
  apply decide_eq_decide.2
  constructor
  · intro h e;rw[e] at h;simp at h
  · intro h e
    rcases Nat.mul_eq_zero.1 e with h2 | h2
    · exact h h2
    · omega
 rw[this]
theorem qku (x n0 m0 pm s D:Nat) (hx:x<18446744073709551616) (hm:0<m0) (h1:n0≤pm*m0) (h2:pm*m0<n0+m0) (hD:D=(x*pm+18446744073709551615)/18446744073709551616)
  (hex:D%2^(64+s)≤1→x*n0=m0*2^(128+s)*(D/2^(64+s))) :
  D/2^(64+s) ||| (decide (1<D%2^(64+s))).toNat=unr (x*n0) (m0*2^(128+s)):=by
 have hQ:0<m0*2^(128+s):=Nat.mul_pos hm (Nat.two_pow_pos _)
 by_cases hc:D%2^(64+s)≤1
 · have he:=hex hc
   unfold unr
   rw[he,Nat.mul_div_cancel_left _ hQ,Nat.mul_mod_right]
   rw[decide_eq_false zxo,decide_eq_false zxs]
 · have hdm:=Nat.div_add_mod D (2^(64+s))
   have hlt:=Nat.mod_lt D (Nat.two_pow_pos (64+s))
   have hT1:x*pm≤18446744073709551616*D:=by omega
   have hT2:18446744073709551616*D<x*pm+18446744073709551616:=by omega
   have eS:2^(128+s)=18446744073709551616*2^(64+s):=by
    rw[show 128+s=64+(64+s) by omega,Nat.pow_add]
   generalize D/2^(64+s)=k at *
   generalize D%2^(64+s)=ρ at *
   generalize 2^(64+s)=W at *
   rw[eS]
   have up:x*n0≤m0*(x*pm):=by
    have:=Nat.mul_le_mul_left x h1
    rw[show m0*(x*pm)=x*(pm*m0) by ac_rfl];exact this
   have dn:m0*(x*pm)≤x*n0+m0*x:=by
    have:=Nat.mul_le_mul_left x (Nat.le_of_lt h2)
    rw[show m0*(x*pm)=x*(pm*m0) by ac_rfl,Nat.mul_comm m0 x,← Nat.mul_add];exact this
   have e1:m0*(18446744073709551616*W)*k<x*n0:=by
    have f1:18446744073709551616*(W*k)+18446744073709551616<x*pm:=by omega
    have f2:m0*(18446744073709551616*(W*k)+18446744073709551616)<m0*(x*pm):=Nat.mul_lt_mul_of_pos_left f1 hm
    have f3:m0*x≤m0*18446744073709551616:=Nat.mul_le_mul_left _ zxo
    rw[Nat.mul_add] at f2
    rw[show m0*(18446744073709551616*W)*k=m0*(18446744073709551616*(W*k)) by ac_rfl]
    generalize m0*(18446744073709551616*(W*k))=z1 at *
    generalize m0*18446744073709551616=z2 at *
    generalize m0*(x*pm)=z3 at *
    generalize m0*x=z4 at *
    omega
   have e2:x*n0<m0*(18446744073709551616*W)*(k+1):=by
    have f1:x*pm<18446744073709551616*(W*k+W):=by
     have:18446744073709551616*D<18446744073709551616*(W*k+W):=Nat.mul_lt_mul_of_pos_left zxo zxd
     omega
    have f2:m0*(x*pm)<m0*(18446744073709551616*(W*k+W)):=Nat.mul_lt_mul_of_pos_left f1 hm
    rw[show m0*(18446744073709551616*W)*(k+1)=m0*(18446744073709551616*(W*k+W)) by rw[← Nat.mul_succ,Nat.succ_eq_add_one];ac_rfl]
    omega
   have hdiv:x*n0/(m0*(18446744073709551616*W))=k:=by
    rw[eS] at hQ
    rw[Nat.div_eq_iff hQ]
    rw[Nat.mul_comm k]
    rw[Nat.mul_succ] at e2
    omega
   have hmod:x*n0%(m0*(18446744073709551616*W))≠0:=by
    have:=Nat.div_add_mod (x*n0) (m0*(18446744073709551616*W))
    rw[hdiv] at this
    omega
   unfold unr
   rw[hdiv,decide_eq_true hmod,decide_eq_true (show 1<ρ by omega)]
theorem qkl (x hi lo s:Nat) (hx1:9223372036854775808≤x) (hx:x<18446744073709551616) (hh1:9223372036854775808≤hi) (hh:hi<18446744073709551616) (hl:lo<18446744073709551616) (hs1:1≤s) (D:Nat)
  (hD:D=(x*(hi*18446744073709551616-lo)+18446744073709551615)/18446744073709551616) :
  (x*hi/18446744073709551616%2^s≠0→D/2^(64+s) ||| (decide (1<D%2^(64+s))).toNat=x*hi/18446744073709551616/2^s ||| 1) ∧
  (x*hi/18446744073709551616%2^s=0→x*lo/18446744073709551616≤x*hi%18446744073709551616→D/2^(64+s) ||| (decide (1<D%2^(64+s))).toNat=x*hi/18446744073709551616/2^s ||| (decide (1<x*hi%18446744073709551616-x*lo/18446744073709551616)).toNat) ∧
  (x*hi/18446744073709551616%2^s=0→x*hi%18446744073709551616<x*lo/18446744073709551616→D/2^(64+s) ||| (decide (1<D%2^(64+s))).toNat=(x*hi/18446744073709551616-1)/2^s ||| 1 ∧
   1<x*hi%18446744073709551616+18446744073709551616-x*lo/18446744073709551616):=by
 have hm2:x*lo/18446744073709551616≤18446744073709551614:=by
  exact qqL
 have hA:9223372036854775808*9223372036854775808≤x*hi:=Nat.mul_le_mul hx1 hh1
 have hD2:D+x*lo/18446744073709551616=x*hi:=by
  have e1:x*(hi*18446744073709551616-lo)=x*hi*18446744073709551616-x*lo:=by
   rw[Nat.mul_sub,← Nat.mul_assoc]
  rw[e1] at hD
  have h1:x*lo≤x*hi*18446744073709551616:=by
   rw[Nat.mul_assoc];exact Nat.mul_le_mul_left _ zxo
  generalize x*lo=L at *
  generalize x*hi=A at *
  omega
 clear hD
 have eW:2^(64+s)=18446744073709551616*2^s:=by rw[Nat.pow_add]
 rw[eW]
 have hW:2≤2^s:=by
  have:=Nat.pow_le_pow_right (show 1≤2 by decide) hs1
  simpa using this
 generalize x*lo/18446744073709551616=m2 at *
 generalize x*hi=A at *
 have hAd:=Nat.div_add_mod A 18446744073709551616
 have hAm:A%18446744073709551616<18446744073709551616:=Nat.mod_lt _ zxd
 have hh0:1≤A/18446744073709551616:=by omega
 generalize A/18446744073709551616=h at *
 generalize A%18446744073709551616=m at *
 generalize 2^s=W at *
 have hWp:0<W:=by omega
 have d1:D/(18446744073709551616*W)=D/18446744073709551616/W:=by rw[Nat.div_div_eq_div_mul]
 have d2:D%(18446744073709551616*W)=D%18446744073709551616+18446744073709551616*(D/18446744073709551616%W):=by rw[Nat.mod_mul]
 rw[d1,d2]
 have hwd:=Nat.div_add_mod h W
 have hwm:=Nat.mod_lt h hWp
 refine⟨fun hb=>?_,fun hb hle=>?_,fun hb hlt=>?_⟩
 · rcases Nat.lt_or_ge m m2 with hlt | hge
   · have q1:D/18446744073709551616=h-1:=by omega
     have q2:D%18446744073709551616=m+18446744073709551616-m2:=by omega
     have q3:(h-1)/W=h/W:=by
      rw[Nat.div_eq_iff hWp,Nat.mul_comm]
      omega
     rw[q1,q2,q3,decide_eq_true zxo]
     rfl
   · have q1:D/18446744073709551616=h:=by omega
     rw[q1,decide_eq_true zxo]
     rfl
 · have q1:D/18446744073709551616=h:=by omega
   have q2:D%18446744073709551616=m-m2:=by omega
   rw[q1,q2,hb,Nat.mul_zero,Nat.add_zero]
 · have q1:D/18446744073709551616=h-1:=by omega
   have q2:D%18446744073709551616=m+18446744073709551616-m2:=by omega
   have q4:1<m+18446744073709551616-m2:=by omega
   rw[q1,q2,decide_eq_true zxo]
   exact⟨rfl,q4⟩
def lpw (p:Int):Int:=p*108853/32768
def pwN (p:Int):Nat:=10^p.toNat*2^(127-lpw p).toNat
def pwM (p:Int):Nat:=10^(-p).toNat*2^(lpw p-127).toNat
def qdQ (p:Int) (hi lo:Nat):Bool :=
 decide (9223372036854775808≤hi)&&decide (hi≤18446744073709549568)&&decide (lo<18446744073709551616)&&decide (170141183460469231731687303715884105728*pwM p≤pwN p) &&
 decide (pwN p≤(hi*18446744073709551616-lo)*pwM p)&&decide ((hi*18446744073709551616-lo)*pwM p<pwN p+pwM p) &&
 (if p < -27∨27<p then qm3 (hi*18446744073709551616-lo) else if 0≤p then decide (lo=0)&&decide (hi%2=0) else true)
theorem qiX (p:Int):0<pwM p:=Nat.mul_pos (Nat.pow_pos zxd) (Nat.two_pow_pos _)
theorem qpx {p:Int} {hi lo:Nat} (h:qdQ p hi lo=true) (x:Nat) (hx1:9223372036854775808≤x) (hx:x<18446744073709551616) (s:Nat) (hs:8≤s) (D:Nat)
  (hD:D=(x*(hi*18446744073709551616-lo)+18446744073709551615)/18446744073709551616) :
  D/2^(64+s) ||| (decide (1<D%2^(64+s))).toNat=unr (x*pwN p) (pwM p*2^(128+s)):=by
 unfold qdQ at h
 simp only[Bool.and_eq_true,decide_eq_true_eq] at h
 obtain⟨⟨⟨⟨⟨⟨k1,k2⟩,k3⟩,k0⟩,k4⟩,k5⟩,k6⟩:=h
 refine qku x (pwN p) (pwM p) (hi*18446744073709551616-lo) s D hx (qiX p) k4 k5 hD fun hc=>?_
 by_cases hp:p < -27∨27<p
 · exfalso
   rw[if_pos hp] at k6
   refine qey k6 x hx1 hx ?_
   generalize x*(hi*18446744073709551616-lo)=T at *
   have hdm:=Nat.div_add_mod D (2^(64+s))
   have e:2^(64+s)=4722366482869645213696*2^(s-8):=by
    rw[show(4722366482869645213696:Nat)=2^72 by decide,← Nat.pow_add,show 72+(s-8)=64+s by omega]
   rw[e,Nat.mul_assoc] at hdm
   rw[e] at hc
   generalize D%(4722366482869645213696*2^(s-8))=ι at *
   generalize 2^(s-8)*(D/(4722366482869645213696*2^(s-8)))=K at *
   clear e k6 k5 k4
   omega
 · rw[if_neg hp] at k6
   by_cases h0:0≤p
   · rw[if_pos h0] at k6
     simp only[Bool.and_eq_true,decide_eq_true_eq] at k6
     obtain⟨rfl,k7⟩:=k6
     have hM:pwM p=1:=by
      unfold pwM lpw
      rw[show(-p).toNat=0 by omega,show(p*108853/32768-127).toNat=0 by omega]
     rw[hM] at k4 k5 ⊢
     rw[Nat.mul_one,Nat.sub_zero] at k4 k5
     have hN:pwN p=hi*18446744073709551616:=by omega
     rw[hN,Nat.one_mul]
     rw[Nat.sub_zero,← Nat.mul_assoc] at hD
     have hD':D=x*hi:=by omega
     have hdm:=Nat.div_add_mod D (2^(64+s))
     have hev:D%2=0:=by rw[hD',Nat.mul_mod,k7];simp
     have hpe:2^(64+s)=2*2^(63+s):=by rw[← Nat.pow_succ'];congr 1;omega
     have hz:D%2^(64+s)=0:=by
      have:2^(64+s)*(D/2^(64+s))=2*(2^(63+s)*(D/2^(64+s))):=by rw[hpe,Nat.mul_assoc]
      omega
     rw[hz,Nat.add_zero] at hdm
     rw[← Nat.mul_assoc,← hD',show 128+s=64+(64+s) by omega,Nat.pow_add]
     rw[show(2:Nat)^64=18446744073709551616 by decide,Nat.mul_assoc,hdm,Nat.mul_comm]
   · -- a small power below 0
     obtain⟨k,rfl⟩:∃ k:Nat,p = -(k:Int):=⟨(-p).toNat,by omega⟩
     have hk:k≤27:=by omega
     have hk0:1≤k:=by omega
     have hM:pwM (-(k:Int))=10^k:=by
      unfold pwM lpw
      rw[show(- -(k:Int)).toNat=k by omega,show(-(k:Int)*108853/32768-127).toNat=0 by omega];simp
     obtain⟨j,hj,hN⟩:∃ j,k+129≤j∧pwN (-(k:Int))=2^j:=by
      refine⟨(127-lpw (-(k:Int))).toNat,?_,?_⟩
      · unfold lpw;omega
      · unfold pwN
        rw[show(-(k:Int)).toNat=0 by omega];simp
     rw[hM,hN] at k4 k5 ⊢
     have hT1:x*(hi*18446744073709551616-lo)≤18446744073709551616*D:=by omega
     have hT2:18446744073709551616*D<x*(hi*18446744073709551616-lo)+18446744073709551616:=by omega
     generalize hpm:hi*18446744073709551616-lo=pm at *
     have hdm:=Nat.div_add_mod D (2^(64+s))
     generalize hZ:D/2^(64+s)=Z at *
     generalize D%2^(64+s)=ι at *
     have eS:2^(128+s)=18446744073709551616*2^(64+s):=by
      rw[show 128+s=64+(64+s) by omega,Nat.pow_add]
     obtain⟨G,hG⟩:∃ G,2^(k+129)=G:=⟨_,rfl⟩
     obtain⟨A,hA⟩:∃ A,x*2^j=G*A:=by
      have a1:2^j=G*2^(j-(k+129)):=by rw[← hG,← Nat.pow_add,show k+129+(j-(k+129))=j by omega]
      exact⟨x*2^(j-(k+129)),by rw[a1,Nat.mul_left_comm]⟩
     obtain⟨B,hB⟩:∃ B,10^k*2^(128+s)*Z=G*B:=by
      refine⟨5^k*2^(s-1)*Z,?_⟩
      have a1:(10:Nat)^k=2^k*5^k:=by rw[← Nat.mul_pow]
      have a2:(2:Nat)^(128+s)=2^129*2^(s-1):=by rw[← Nat.pow_add,show 129+(s-1)=128+s by omega]
      have a3:(2:Nat)^(k+129)=2^k*2^129:=Nat.pow_add 2 k 129
      rw[← hG,a1,a2,a3]
      generalize (2:Nat)^129=T
      generalize (2:Nat)^k=K
      generalize (5:Nat)^k=F
      generalize (2:Nat)^(s-1)=S
      ac_rfl
     have hsm:36893488147419103232*10^k<G:=by
      have h5:5^k≤5^27:=Nat.pow_le_pow_right zxd hk
      have h52:5^27<2^64:=by decide
      have:36893488147419103232*10^k=2^k*(36893488147419103232*5^k):=by
       rw[show(10:Nat)^k=2^k*5^k by rw[← Nat.mul_pow]];ac_rfl
      rw[this,← hG,Nat.pow_add]
      refine Nat.mul_lt_mul_of_pos_left ?_ (Nat.two_pow_pos k)
      have:(2:Nat)^129=36893488147419103232*2^64:=by decide
      rw[this]
      exact Nat.mul_lt_mul_of_pos_left zxo zxd
     rw[hA,hB]
     have up:x*2^j≤10^k*(x*pm):=by
      have:=Nat.mul_le_mul_left x k4
      rw[show 10^k*(x*pm)=x*(pm*10^k) by ac_rfl];exact this
     have dn:10^k*(x*pm)≤x*2^j+10^k*x:=by
      have:=Nat.mul_le_mul_left x (Nat.le_of_lt k5)
      rw[show 10^k*(x*pm)=x*(pm*10^k) by ac_rfl,Nat.mul_comm (10^k) x,← Nat.mul_add];exact this
     have u1:x*2^j≤10^k*2^(128+s)*Z+36893488147419103232*10^k:=by
      refine Nat.le_trans up ?_
      have:10^k*(x*pm)≤10^k*(18446744073709551616*(2^(64+s)*Z)+36893488147419103232):=Nat.mul_le_mul_left _ zxo
      refine Nat.le_trans this ?_
      rw[Nat.mul_add,eS,Nat.mul_comm (10^k) 36893488147419103232]
      have e7:10^k*(18446744073709551616*(2^(64+s)*Z))=10^k*(18446744073709551616*2^(64+s))*Z:=by
       rw[Nat.mul_assoc,Nat.mul_assoc]
      rw[e7]
      exact Nat.le_refl _
     have u2:10^k*2^(128+s)*Z≤x*2^j+36893488147419103232*10^k:=by
      have f1:18446744073709551616*(2^(64+s)*Z)≤x*pm+18446744073709551616:=by omega
      have f2:=Nat.mul_le_mul_left (10^k) f1
      rw[Nat.mul_add] at f2
      have f3:10^k*x≤10^k*18446744073709551616:=Nat.mul_le_mul_left _ zxo
      have e7:10^k*(18446744073709551616*2^(64+s))*Z=10^k*(18446744073709551616*(2^(64+s)*Z)):=by
       rw[Nat.mul_assoc,Nat.mul_assoc]
      rw[eS,e7]
      have f4:10^k*18446744073709551616+10^k*18446744073709551616=36893488147419103232*10^k:=by omega
      omega
     rw[hA,hB] at u1 u2
     generalize 36893488147419103232*10^k=ε at *
     clear dn up hT1 hT2 k4 k5
     have hAB:A=B:=?_
     · rw[hAB]
     rcases Nat.lt_trichotomy A B with hlt | heq | hgt
     · exfalso
       have:G*(A+1)≤G*B:=Nat.mul_le_mul_left _ hlt
       rw[Nat.mul_add,Nat.mul_one] at this
       omega
     · exact heq
     · exfalso
       have:G*(B+1)≤G*A:=Nat.mul_le_mul_left _ hgt
       rw[Nat.mul_add,Nat.mul_one] at this
       omega
theorem JW (P Q:Nat) (hQ:0<Q):(P%Q=0∧unr P Q=P/Q)∨(P%Q≠0∧P/Q%2=0∧unr P Q=P/Q+1)∨(P%Q≠0∧P/Q%2=1∧unr P Q=P/Q):=by
 unfold unr
 by_cases h:P%Q=0
 · left
   rw[decide_eq_false (by simpa using h)]
   exact⟨h,by simp⟩
 · right
   rw[decide_eq_true h]
   rcases Nat.mod_two_eq_zero_or_one (P/Q) with h2 | h2
   · left
     refine⟨h,h2,?_⟩
     obtain⟨t,ht⟩:∃ t,P/Q=2*t:=⟨P/Q/2,by omega⟩
     rw[ht]
     have:2*t ||| 1=2*t+1:=by
      exact qpL
     exact this
   · right
     refine⟨h,h2,?_⟩
     obtain⟨t,ht⟩:∃ t,P/Q=2*t+1:=⟨P/Q/2,by omega⟩
     rw[ht]
     have h3:2*t ||| 1=2*t+1:=by
      exact qpL
     show(2*t+1) ||| 1=2*t+1
     rw[← h3,Nat.or_assoc]
     rfl
theorem qjA (P Q:Nat) (hQ:0<Q):(unr (4*P) Q+1+unr (4*P) Q/4%2)/4=rhe P Q:=by
 have h:=JW (4*P) Q hQ
 have hp:=Nat.div_add_mod P Q
 have hr:=Nat.mod_lt P hQ
 have hp4:=Nat.div_add_mod (4*P) Q
 have hr4:=Nat.mod_lt (4*P) hQ
 have hc:=qdf P Q hQ
 generalize rhe P Q=R at *
 generalize unr (4*P) Q=u at *
 generalize hf:P/Q=f at *
 generalize P%Q=r at *
 generalize hg:4*P/Q=g at *
 generalize 4*P%Q=t at *
 have k0:4*r+4*(Q*f)=Q*g+t:=by omega
 have hlo:4*f≤g:=by rw[← hg,← hf,Nat.le_div_iff_mul_le hQ];have:=Nat.div_mul_le_self P Q;rw[Nat.mul_assoc];omega
 obtain⟨i,rfl⟩:∃ i,g=4*f+i:=⟨g-4*f,by omega⟩
 rw[Nat.mul_add,show Q*(4*f)=4*(Q*f) by ac_rfl] at k0
 have k1:4*r=Q*i+t:=by omega
 have hi:i≤3:=by
  rcases Nat.lt_or_ge 3 i with h4 | h4
  · have:Q*4≤Q*i:=Nat.mul_le_mul_left _ h4
    omega
  · exact h4
 clear k0 hp hp4 hlo hf hg
 have hi4:i=0∨i=1∨i=2∨i=3:=by omega
 rcases hi4 with rfl | rfl | rfl | rfl<;>rcases h with⟨h1,h2⟩ | ⟨h1,h2,h3⟩ | ⟨h1,h2,h3⟩<;>rcases hc with⟨c1,c2,c3⟩ | ⟨c1,c2,c3⟩<;>omega
theorem qkJ (P Q:Nat) (hQ:0<Q):unr (4*P) Q/2 ||| unr (4*P) Q%2=unr (4*P) (2*Q):=by
 have h:=JW (4*P) Q hQ
 have h':=JW (4*P) (2*Q) zxo
 have e1:4*P/(2*Q)=4*P/Q/2:=by rw[Nat.mul_comm 2 Q,Nat.div_div_eq_div_mul]
 have e2:4*P%(2*Q)=4*P%Q+Q*(4*P/Q%2):=by rw[Nat.mul_comm 2 Q,Nat.mod_mul]
 rw[e1,e2] at h'
 generalize unr (4*P) (2*Q)=v at *
 generalize unr (4*P) Q=u at *
 generalize 4*P/Q=g at *
 generalize 4*P%Q=t at *
 have or1:∀ t:Nat,t ||| 0=t:=fun t=>by simp
 have orE:∀ t:Nat,t%2=0→t ||| 1=t+1:=fun t ht=>by
  obtain⟨z,rfl⟩:∃ z,t=2*z:=⟨t/2,by omega⟩
  have:=Nat.shiftLeft_add_eq_or_of_lt (show 1<2^1 by decide) z
  rw[Nat.shiftLeft_eq,Nat.mul_comm,Nat.pow_one] at this
  exact this.symm
 have orO:∀ t:Nat,t%2=1→t ||| 1=t:=fun t ht=>by
  obtain⟨z,rfl⟩:∃ z,t=2*z+1:=⟨t/2,by omega⟩
  rw[← orE (2*z) zxo,Nat.or_assoc];rfl
 have hg2:g%2=0∨g%2=1:=by omega
 rcases Nat.mod_two_eq_zero_or_one u with hu | hu
 · rw[hu,or1]
   exact qoc
 · rw[hu]
   rcases Nat.mod_two_eq_zero_or_one (u/2) with hv | hv
   · rw[orE _ hv]
     exact qoc
   · rw[orO _ hv]
     exact qoc
theorem qpm (P Q c:Nat) (hQ:0<Q) (hc:c%2=0):c≤unr (4*P) Q↔c*Q≤4*P:=by
 rw[← Nat.le_div_iff_mul_le hQ]
 rcases JW (4*P) Q hQ with⟨h1,h2⟩ | ⟨h1,h2,h3⟩ | ⟨h1,h2,h3⟩<;>omega
section
open Go.RowKit Go.Lib
theorem jH {w:World} {t:TypeId} {k:IntKind} {fuel:Nat} {cs:List Value} {b:DataW Unit×List MemPlace} {z:Int} (ht:Tryz.prog.underlying t=some (.int k))
  (h:DataW.trod (fun _=>()) Tryz.prog w 0 (fun _=>true) false fuel t cs=some b) (hb:b.1 = .lit (.int k z)):cs=[.int k z]:=by
 obtain⟨a,hc,rfl,_⟩:=DataW.trod_int ht h
 simp only[DataW.lit.injEq,Lit.int.injEq,true_and] at hb
 rw[hc,hb]
theorem Qq {cs:List Value} {i n:Nat} {l:List Value} {j:Nat} {v:Value} (h:(cs.drop i).take n=l) (hj:l[j]?=some v):cs[i+j]?=some v:=by
 subst h
 rw[List.getElem?_take] at hj
 split at hj
 · rw[List.getElem?_drop] at hj;exact hj
 · cases hj
theorem qh3 {w:World} (h:VarReads Tryz.prog w "internal/strconv.pow10Tab" Go.Pinned.pow10Tab) (i:Nat) (x:Nat×Nat) (hx:Go.Pinned.pow10Rows[i]?=some x) (hlen:Go.Pinned.pow10Rows.length=696) :
  w.cell? ⟨13,2*i,none⟩=some (.int .u64 (x.1:Nat))∧w.cell? ⟨13,2*i+1,none⟩=some (.int .u64 (x.2:Nat)):=by
 obtain⟨g,t,cs,fuel,p,hg,hty,hvar,hd⟩:=h
 obtain rfl:=Option.some.inj ((show Tryz.prog.globalNamed "internal/strconv.pow10Tab" = some 13 by kernel_rfl).symm.trans hg)
 obtain rfl:=Option.some.inj ((show(Tryz.prog.globals[13]?).map (·.type)=some 272 by kernel_rfl).symm.trans hty)
 obtain⟨xs,m,rfl,hxs,hl,hxl,hall⟩:=DataW.trod_array Tryz.underlying272 hd
 have hi:i<696:=by
  rw[← hlen]
  rcases Nat.lt_or_ge i Go.Pinned.pow10Rows.length with h' | h'
  · exact h'
  · rw[List.getElem?_eq_none h'] at hx;cases hx
 have ha:=hall i hi
 obtain⟨b,hb⟩:∃ b,xs[i]?=some b:=⟨xs[i]'zxo,List.getElem?_eq_getElem zxo⟩
 rw[hb,show Tryz.prog.cellsOf 271=2 by kernel_rfl] at ha
 have e0:=congrArg Prod.fst hxs
 unfold Go.Pinned.pow10Tab at e0
 simp only[DataW.agg.injEq] at e0
 have hb1:b.1 = .agg [.lit (.int .u64 (x.1:Nat)),.lit (.int .u64 (x.2:Nat))]:=by
  have:=congrArg (fun l=>l[i]?) e0
  simp only[List.getElem?_map,hb,hx,Option.map_some,Option.some.injEq] at this
  exact this.symm
 obtain⟨ys,n,rfl,hy,hyl,hyl2,hyall⟩:=DataW.trod_struct Tryz.underlying271 ha
 have f0:DataW.trod (fun _=>()) Tryz.prog w 0 (fun _=>true) false n 87 ((((cs.toList.drop (i*2)).take 2).drop 0).take (Tryz.prog.cellsOf 87))=ys[0]?:=hyall 0 _ rfl
 have f1:DataW.trod (fun _=>()) Tryz.prog w 0 (fun _=>true) false n 87 ((((cs.toList.drop (i*2)).take 2).drop 1).take (Tryz.prog.cellsOf 87))=ys[1]?:=hyall 1 _ rfl
 rw[hy] at hb1
 simp only[DataW.agg.injEq] at hb1
 obtain⟨y0,y1,rfl⟩:∃ y0 y1,ys=[y0,y1]:=by
  match ys,hb1 with
  | [a,c],_=>exact⟨a,c,rfl⟩
 simp only[List.map_cons,List.map_nil,List.cons.injEq,and_true] at hb1
 simp only[List.getElem?_cons_zero,List.getElem?_cons_succ] at f0 f1
 rw[show Tryz.prog.cellsOf 87=1 by kernel_rfl] at f0 f1
 have c0:=jH Tryz.underlying87 f0 hb1.1
 have c1:=jH Tryz.underlying87 f1 hb1.2
 rw[show Tryz.prog.cellsOf 272=1392 by kernel_rfl] at hl
 have hsz:cs.size=1392:=by rw[← Array.length_toList];exact hl
 have g0:=Qq c0 (j:=0) (by rfl)
 have g1:=Qq c1 (j:=0) (by rfl)
 simp only[Nat.add_zero] at g0 g1
 have h0:=Qq (cs:=cs.toList) (i:=i*2) (n:=2) rfl g0
 have h1:=Qq (cs:=cs.toList) (i:=i*2) (n:=2) rfl g1
 constructor
 · rw[Qc (by kernel_rfl) hvar (2*i) zxo,← Array.getElem?_eq_getElem,← Array.getElem?_toList,show 2*i=i*2+0 by omega];exact h0
 · rw[Qc (by kernel_rfl) hvar (2*i+1) zxo,← Array.getElem?_eq_getElem,← Array.getElem?_toList,show 2*i+1=i*2+1 by omega];exact h1
end
end Go.Proofs.YtacdfjlncfidgaaGreatDoor
