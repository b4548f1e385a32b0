/- A part of what the claim leans on. -/
import Derived.Test.YtacdfjlncfidgaaGreatDoorQS
import Derived.Test.YtacdfjlncfidgaaGreatDoorQC
import Derived.Laws.FloatArith
import Derived.Deep.DeepCutAuto
namespace Go.Proofs.YtacdfjlncfidgaaGreatDoor
open Go.RowKit
set_option linter.unusedVariables false
set_option linter.unusedSimpArgs false
set_option maxRecDepth 100000
set_option maxHeartbeats 12800000
def qhW (n gap:Nat):Nat:=(decide (gap<2*(n%gap))||(gap == 2*(n%gap)&&n/gap%2 == 1)).toNat
def qme (n d:Nat):Nat:=n/2^d+qhW n (2^d)
theorem qmG (n g:Nat):qhW n g≤1:=by unfold qhW;cases (decide (g<2*(n%g))||(g == 2*(n%g)&&n/g%2 == 1))<;>simp
theorem qcG (neg:Bool) (n d:Nat) (h:d≤n.log2+2):Ieee.Toward.even.cut neg n d=qme n d:=by
 unfold Ieee.Toward.cut qme qhW
 simp only[Nat.min_eq_left h,Nat.shiftLeft_eq,Nat.one_mul]
theorem qlW (n:Nat):qme n 0=n:=by
 unfold qme qhW;simp[Nat.mod_one]
def jl (m:Nat):Nat:=if m=0 then 0 else if m.log2≤52 then (m.log2+1022)*4503599627370496+m*2^(52-m.log2) else (m.log2+1022)*4503599627370496+qme m (m.log2-52)
theorem jz:Ieee.double.leastPlace = -1074:=by decide
theorem qq9:Ieee.double.fractionBits=52:=rfl
theorem qcy:Ieee.double.binade=4503599627370496:=by decide
theorem quz:Ieee.double.infRung=9218868437227405312:=by decide
theorem qmK:Ieee.double.signWeight=9223372036854775808:=by decide
theorem qqw (n d:Nat):n/2^d≤qme n d∧qme n d≤n/2^d+1:=by
 have:=qmG n (2^d);unfold qme;omega
theorem qmE {L d:Nat} (h:d≤L):2^L/2^d=2^(L-d):=Nat.pow_div h zxd
theorem Q4 (m:Nat) (hm:m≠0):(m.log2+1023)*4503599627370496≤jl m∧jl m≤(m.log2+1024)*4503599627370496:=by
 have h1:=Nat.log2_self_le hm
 have h2:=Nat.lt_log2_self (n:=m)
 unfold jl
 rw[if_neg hm]
 generalize m.log2=L at *
 split
 · rename_i hL
   have e:2^L*2^(52-L)=4503599627370496:=by rw[← Nat.pow_add,show L+(52-L)=52 by omega]
   have e1:2^L*2^(52-L)≤m*2^(52-L):=Nat.mul_le_mul_right _ h1
   have e2:m*2^(52-L)≤2^(L+1)*2^(52-L):=Nat.mul_le_mul_right _ zxo
   rw[Nat.pow_succ,Nat.mul_right_comm,e] at e2
   rw[e] at e1
   omega
 · rename_i hL
   have ⟨r1,r2⟩:=qqw m (L-52)
   have e1:2^L/2^(L-52)≤m/2^(L-52):=Nat.div_le_div_right h1
   have e2:m/2^(L-52)<9007199254740992:=by
    rw[Nat.div_lt_iff_lt_mul (Nat.two_pow_pos _)]
    have:9007199254740992*2^(L-52)=2^(L+1):=by rw[show(9007199254740992:Nat)=2^53 by decide,← Nat.pow_add,show 53+(L-52)=L+1 by omega]
    omega
   rw[qmE zxo,show L-(L-52)=52 by omega] at e1
   omega
theorem qeW (neg:Bool) (m:Nat) (hm:m<18446744073709551616):Ieee.double.nearest neg m 0=Ieee.double.word neg (jl m):=by
 unfold Ieee.Format.nearest
 by_cases h0:m=0
 · subst h0;simp[jl]
 · rw[if_neg h0]
   have hb:=Q4 m h0
   have h1:=Nat.log2_self_le h0
   have hlog:m.log2<64:=by rw[Nat.log2_lt h0];exact hm
   simp only[jz,qq9,qcy,quz]
   congr 1
   unfold jl at hb ⊢
   rw[if_neg h0] at hb ⊢
   have hmax:max ((0:Int)+(m.log2:Int)-((52:Nat):Int)) (-1074)=(m.log2:Int)-52:=by
    rw[Int.max_eq_left zxo];omega
   rw[hmax]
   have e1:((m.log2:Int)-52 - -1074).toNat=m.log2+1022:=by omega
   rw[e1]
   have e2:((0:Int)-((m.log2:Int)-52)).toNat=52-m.log2:=by omega
   have e3:((m.log2:Int)-52-0).toNat=m.log2-52:=by omega
   rw[e2,e3]
   split at hb
   · rename_i hL
     rw[if_pos hL,show m.log2-52=0 by omega,qcG _ _ _ (Nat.zero_le _),qlW,Nat.shiftLeft_eq]
     rw[Nat.min_eq_left];omega
   · rename_i hL
     rw[if_neg hL,show 52-m.log2=0 by omega,Nat.shiftLeft_zero,qcG _ _ _ zxo]
     rw[Nat.min_eq_left];omega
theorem qik {a b:Nat} (ha:a≠0) (h:a≤b):a.log2≤b.log2:=by
 rw[Nat.le_log2 zxo]
 exact Nat.le_trans (Nat.log2_self_le ha) h
theorem qfT {m:Nat} (h:m≠0):0<jl m:=by have:=Q4 m h;omega
theorem qeC {a b:Nat} (h:a<b) (hb53:b≤9007199254740992):jl a<jl b:=by
 have hb:b≠0:=by omega
 by_cases ha:a=0
 · subst ha;have:=qfT hb;simpa[jl] using this
 · have hl:=qik ha (Nat.le_of_lt h)
   have hLa:a.log2≤52:=by
    have:a.log2<53:=by rw[Nat.log2_lt ha];omega
    omega
   have h2:=Q4 b hb
   have a2:=Nat.lt_log2_self (n:=a)
   have hra:jl a<(a.log2+1024)*4503599627370496:=by
    unfold jl
    rw[if_neg ha,if_pos hLa]
    have e:2^(a.log2+1)*2^(52-a.log2)=9007199254740992:=by rw[← Nat.pow_add,show a.log2+1+(52-a.log2)=53 by omega]
    have e2:a*2^(52-a.log2)<2^(a.log2+1)*2^(52-a.log2):=Nat.mul_lt_mul_of_pos_right a2 (Nat.two_pow_pos _)
    omega
   rcases Nat.lt_or_ge a.log2 b.log2 with hlt | hge
   · have:(a.log2+1024)*4503599627370496≤(b.log2+1023)*4503599627370496:=Nat.mul_le_mul_right _ zxo
     omega
   · have he:a.log2=b.log2:=by omega
     unfold jl
     rw[if_neg ha,if_neg hb,← he,if_pos hLa,if_pos hLa]
     have:=Nat.mul_lt_mul_of_pos_right h (Nat.two_pow_pos (52-a.log2))
     omega
def V (r:Nat):Nat:=if r<4503599627370496 then r else (4503599627370496+r%4503599627370496)*2^(r/4503599627370496-1)
theorem qcX {r:Nat} (h:4503599627370496≤r):4503599627370496*2^(r/4503599627370496-1)≤V r∧V r<4503599627370496*2^(r/4503599627370496):=by
 unfold V
 rw[if_neg zxo]
 have hm:r%4503599627370496<4503599627370496:=Nat.mod_lt _ zxd
 have hq:r/4503599627370496=(r/4503599627370496-1)+1:=by omega
 generalize r%4503599627370496=m at *
 generalize r/4503599627370496-1=q at *
 rw[hq,Nat.pow_succ]
 have hp:=Nat.two_pow_pos q
 refine⟨Nat.mul_le_mul_right _ zxo,?_⟩
 rw[show 4503599627370496*(2^q*2)=9007199254740992*2^q by omega]
 exact Nat.mul_lt_mul_of_pos_right zxo hp
theorem jR {a b:Nat} (h:a<b):V a<V b:=by
 by_cases ha:a<4503599627370496
 · by_cases hb:b<4503599627370496
   · unfold V;rw[if_pos ha,if_pos hb];exact h
   · have h1:=(qcX (by omega:4503599627370496≤b)).1
     have hp:=Nat.two_pow_pos (b/4503599627370496-1)
     have:V a=a:=by unfold V;rw[if_pos ha]
     have:4503599627370496*1≤4503599627370496*2^(b/4503599627370496-1):=Nat.mul_le_mul_left _ hp
     omega
 · have h1:=(qcX (by omega:4503599627370496≤a)).2
   have h2:=(qcX (by omega:4503599627370496≤b)).1
   rcases Nat.lt_or_ge (a/4503599627370496) (b/4503599627370496) with hlt | hge
   · have:2^(a/4503599627370496)≤2^(b/4503599627370496-1):=Nat.pow_le_pow_right zxd zxo
     have:=Nat.mul_le_mul_left 4503599627370496 this
     omega
   · have he:a/4503599627370496=b/4503599627370496:=by omega
     unfold V
     rw[if_neg ha,if_neg zxo,he]
     exact Nat.mul_lt_mul_of_pos_right zxo (Nat.two_pow_pos _)
theorem V_zero:V 0=0:=by decide
theorem qiN {a b:Nat} (h:V a=V b):a=b:=by
 rcases Nat.lt_trichotomy a b with h1 | h1 | h1
 · have:=jR h1;omega
 · exact h1
 · have:=jR h1;omega
theorem qwr {a b:Nat}:V a<V b↔a<b:=by
 constructor
 · intro h
   rcases Nat.lt_trichotomy a b with h1 | h1 | h1
   · exact h1
   · subst h1;omega
   · have:=jR h1;omega
 · exact jR
def sgn (s:Bool) (n:Nat):Int:=if s then -(n:Int) else n
def pl (b:Nat):Int:=sgn (decide (9223372036854775808≤b)) (b%9223372036854775808)
theorem qmn {x y x' y':Int} (hlt:x<y↔x'<y') (heq:x=y↔x'=y'):compare x y=compare x' y':=by
 simp only[compare,compareOfLessAndEq,hlt,heq]
theorem qnW (s t:Bool) (a b:Nat):compare (sgn s (V a)) (sgn t (V b))=compare (sgn s a) (sgn t b):=by
 have h1:=@qwr a b
 have h2:=@qwr b a
 have h3:V a=V b↔a=b:=⟨qiN,fun h=>by rw[h]⟩
 have h4:V a=0↔a=0:=⟨fun h=>qiN (by rw[h,V_zero]),fun h=>by rw[h,V_zero]⟩
 have h5:V b=0↔b=0:=⟨fun h=>qiN (by rw[h,V_zero]),fun h=>by rw[h,V_zero]⟩
 generalize V a=A at *
 generalize V b=B at *
 apply qmn
 · exact qrG
 · exact qrG
theorem qd6 (s:Bool) (m k:Nat):Ieee.signed s m k=sgn s (m*2^k):=by
 unfold Ieee.signed sgn
 rw[Nat.shiftLeft_eq]
theorem qjL (s:Bool) (n c:Nat):sgn s (n*c)=sgn s n*c:=by
 cases s<;>simp[sgn,Int.neg_mul]
theorem qcd {b:Nat} (hb:b<18446744073709551616) (hn:qpJ b=false) :
  (b%9223372036854775808<9218868437227405312∧∃ m p:Nat,Ieee.double.read b = .number (decide (9223372036854775808≤b)) m ((p:Int)-1074)∧m*2^p=V (b%9223372036854775808)) ∨
  (b%9223372036854775808=9218868437227405312∧Ieee.double.read b = .infinity (decide (9223372036854775808≤b))):=by
 have hn':¬ b%9223372036854775808>9218868437227405312:=by rw[qiv] at hn;simpa using hn
 have hs:(b/9223372036854775808%2 == 1)=decide (9223372036854775808≤b):=by
  exact qt6
 unfold Ieee.Format.read
 simp only[qmK,qcy,quz,hs,jz]
 generalize hr:b%9223372036854775808=r at *
 by_cases h1:r<4503599627370496
 · left
   refine⟨by omega,r,0,?_,?_⟩
   · rw[if_pos h1];first | done | rfl
   · unfold V;rw[if_pos h1];simp
 · by_cases h2:r<9218868437227405312
   · left
     refine⟨h2,4503599627370496+r%4503599627370496,r/4503599627370496-1,?_,?_⟩
     · rw[if_neg h1,if_pos h2];congr 1;try omega
     · unfold V;rw[if_neg h1]
   · right
     have h3:r=9218868437227405312:=by omega
     refine⟨h3,?_⟩
     rw[if_neg h1,if_neg h2,if_pos h3]
theorem qaY {a b:Nat} (ha:a<18446744073709551616) (hb:b<18446744073709551616) (na:qpJ a=false) (nb:qpJ b=false) :
  Ieee.double.order a b=some (compare (pl a) (pl b)):=by
 unfold Ieee.Format.order pl
 rcases qcd ha na with⟨h1,m,p,e1,v1⟩ | ⟨h1,e1⟩<;>rcases qcd hb nb with⟨h2,n,q,e2,v2⟩ | ⟨h2,e2⟩
 · rw[e1,e2]
   simp only[Ieee.Datum.order]
   rw[← qnW,← v1,← v2,qd6,qd6]
   congr 1
   obtain⟨c,hc⟩:∃ c:Nat,min p q=c:=⟨_,rfl⟩
   have hbase:min ((p:Int)-1074) ((q:Int)-1074)=(c:Int)-1074:=by omega
   have hp:(((p:Int)-1074)-((c:Int)-1074)).toNat=p-c:=by omega
   have hq:(((q:Int)-1074)-((c:Int)-1074)).toNat=q-c:=by omega
   rw[hbase,hp,hq]
   have hpc:m*2^p=m*2^(p-c)*2^c:=by rw[Nat.mul_assoc,← Nat.pow_add,show p-c+c=p by omega]
   have hqc:n*2^q=n*2^(q-c)*2^c:=by rw[Nat.mul_assoc,← Nat.pow_add,show q-c+c=q by omega]
   rw[hpc,hqc,qjL _ (m*2^(p-c)) (2^c),qjL _ (n*2^(q-c)) (2^c)]
   have hpos:(0:Int)<((2^c:Nat):Int):=by have:=Nat.two_pow_pos c;omega
   apply qmn
   · exact(Int.mul_lt_mul_right hpos).symm
   · exact⟨fun h=>by rw[h],fun h=>Int.eq_of_mul_eq_mul_right zxo h⟩
 · rw[e1,e2]
   simp only[Ieee.Datum.order]
   congr 1
   rw[h2]
   generalize b=B
   cases decide (9223372036854775808≤a)<;>cases decide (9223372036854775808≤B)<;>simp only[sgn,if_true,if_false,Bool.false_eq_true]<;>simp only[compare,compareOfLessAndEq]<;>(repeat' split)<;>first | rfl | omega
 · rw[e1,e2]
   simp only[Ieee.Datum.order]
   congr 1
   rw[h1]
   cases decide (9223372036854775808≤a)<;>cases decide (9223372036854775808≤b)<;>simp only[sgn,if_true,if_false,Bool.false_eq_true]<;>simp only[compare,compareOfLessAndEq]<;>(repeat' split)<;>first | rfl | omega
 · rw[e1,e2,h1,h2]
   cases decide (9223372036854775808≤a)<;>cases decide (9223372036854775808≤b)<;>decide
def rhe (p q:Nat):Nat:=p/q+(decide (q<2*(p%q))||(q == 2*(p%q)&&p/q%2 == 1)).toNat
theorem qdf (p q:Nat) (hq:0<q):(rhe p q=p/q∧2*(p%q)≤q∧(p/q%2=1→2*(p%q)<q))∨(rhe p q=p/q+1∧q≤2*(p%q)∧(p/q%2=0→q<2*(p%q))):=by
 unfold rhe
 by_cases h1:q<2*(p%q)
 · right
   rw[decide_eq_true h1]
   exact⟨rfl,by omega,fun _=>h1⟩
 · rw[decide_eq_false h1]
   by_cases h2:q=2*(p%q)
   · have e2:(q == 2*(p%q))=true:=by simpa using h2
     rw[e2]
     by_cases h3:p/q%2=1
     · right
       have e3:(p/q%2 == 1)=true:=by simpa using h3
       rw[e3]
       exact⟨rfl,by omega,fun h=>by omega⟩
     · left
       have e3:(p/q%2 == 1)=false:=by simpa using h3
       rw[e3]
       exact⟨rfl,by omega,fun h=>by omega⟩
   · left
     have e2:(q == 2*(p%q))=false:=by simpa using h2
     rw[e2]
     exact⟨rfl,by omega,fun h=>by omega⟩
theorem qah (p q:Nat):p/q≤rhe p q∧rhe p q≤p/q+1:=by
 unfold rhe
 have:=Bool.toNat_le (decide (q<2*(p%q))||(q == 2*(p%q)&&p/q%2 == 1))
 omega
theorem JZ (p q:Nat) (hq:0<q):2*p≤(2*rhe p q+1)*q∧2*rhe p q*q≤2*p+q∧(rhe p q%2=1→2*p<(2*rhe p q+1)*q∧2*rhe p q*q<2*p+q):=by
 have hp:=Nat.div_add_mod p q
 have hr:=Nat.mod_lt p hq
 rcases qdf p q hq with⟨e,h1,h2⟩ | ⟨e,h1,h2⟩<;>rw[e]
 · generalize p/q=f at *
   generalize p%q=s at *
   have e1:(2*f+1)*q=2*(q*f)+q:=by rw[Nat.add_mul,Nat.one_mul,Nat.mul_assoc,Nat.mul_comm f q]
   have e2:2*f*q=2*(q*f):=by rw[Nat.mul_assoc,Nat.mul_comm f q]
   rw[e1,e2]
   generalize q*f=F at *
   refine⟨by omega,by omega,fun h=>?_⟩
   have:=h2 h
   omega
 · generalize p/q=f at *
   generalize p%q=s at *
   have e1:(2*(f+1)+1)*q=2*(q*f)+3*q:=by rw[show 2*(f+1)+1=2*f+3 by omega,Nat.add_mul,Nat.mul_assoc,Nat.mul_comm f q]
   have e2:2*(f+1)*q=2*(q*f)+2*q:=by rw[show 2*(f+1)=2*f+2 by omega,Nat.add_mul,Nat.mul_assoc,Nat.mul_comm f q]
   rw[e1,e2]
   generalize q*f=F at *
   refine⟨by omega,by omega,fun h=>?_⟩
   have:=h2 zxo
   omega
theorem Qe (p q c:Nat) (hc:0<c):rhe (p*c) (q*c)=rhe p q:=by
 unfold rhe
 rw[Nat.mul_div_mul_right _ _ hc,Nat.mul_mod_mul_right]
 have e1:decide (q*c<2*(p%q*c))=decide (q<2*(p%q)):=by
  rw[← Nat.mul_assoc]
  exact decide_eq_decide.2 (Nat.mul_lt_mul_right hc)
 have e2:(q*c == 2*(p%q*c))=(q == 2*(p%q)):=by
  rw[← Nat.mul_assoc,Bool.eq_iff_iff]
  simp only[beq_iff_eq]
  exact⟨fun h=>Nat.eq_of_mul_eq_mul_right hc h,fun h=>congrArg (· * c) h⟩
 rw[e1,e2]
theorem qgl (a b k:Nat) (hb:0<b):rhe (2*(a/b)+(a%b != 0).toNat) (2^(k+2))=rhe a (b*2^(k+1)):=by
 obtain⟨s,hs⟩:∃ s,(a%b != 0).toNat=s:=⟨_,rfl⟩
 have hs1:(s=0∧a%b=0)∨(s=1∧a%b≠0):=by
  by_cases h:a%b=0
  · left;rw[h] at hs;exact⟨hs.symm,h⟩
  · right
    have:(a%b != 0)=true:=by simpa using h
    rw[this] at hs;exact⟨hs.symm,h⟩
 rw[hs]
 have hab:=Nat.div_add_mod a b
 have hlt:=Nat.mod_lt a hb
 have hf:a/(b*2^(k+1))=a/b/2^(k+1):=by rw[Nat.div_div_eq_div_mul]
 have hm:a%(b*2^(k+1))=b*(a/b%2^(k+1))+a%b:=by
  rw[Nat.mod_mul];omega
 generalize a/b=u at *
 generalize a%b=t at *
 have hP:2^(k+2)=2*2^(k+1):=by rw[Nat.pow_succ 2 (k+1)];omega
 have hP1:2^(k+1)=2*2^k:=by rw[Nat.pow_succ];omega
 have hk:=Nat.two_pow_pos k
 have hu:=Nat.div_add_mod u (2^(k+1))
 have hul:=Nat.mod_lt u (Nat.two_pow_pos (k+1))
 have hd2:(2*u+s)/2^(k+2)=u/2^(k+1):=by
  rw[hP,← Nat.div_div_eq_div_mul]
  congr 1
  omega
 have hm2:(2*u+s)%2^(k+2)=2*(u%2^(k+1))+s:=by
  rw[hP,Nat.mod_mul]
  have:(2*u+s)/2=u:=by omega
  rw[this]
  omega
 unfold rhe
 rw[hd2,hm2,hf,hm]
 generalize u/2^(k+1)=f at *
 generalize hv:u%2^(k+1)=v at *
 rw[hP,hP1]
 generalize 2^k=K at *
 clear hu hd2 hm2 hf hm hP hab
 have c1:decide (2*(2*K)<2*(2*v+s))=decide (b*(2*K)<2*(b*v+t)):=by
  apply decide_eq_decide.2
  exact qpQ
 have c2:(2*(2*K) == 2*(2*v+s))=(b*(2*K) == 2*(b*v+t)):=by
  rw[Bool.eq_iff_iff]
  simp only[beq_iff_eq]
  exact qpQ
 rw[c1,c2]
structure Near (r p q:Nat):Prop where
 le:r≤9218868437227405312
 hi:r<9218868437227405312→2*p≤(V r+V (r+1))*q
 hio:r<9218868437227405312→r%2=1→2*p<(V r+V (r+1))*q
 lo:0<r→(V (r-1)+V r)*q≤2*p
 loo:0<r→r%2=1→(V (r-1)+V r)*q<2*p
theorem qdL {a b:Nat} (h:a≤b):V a≤V b:=by
 rcases Nat.lt_or_ge a b with h1 | h1
 · exact Nat.le_of_lt (jR h1)
 · have:a=b:=by omega
   rw[this];exact Nat.le_refl _
theorem Near.not_lt {r s p q:Nat} (hq:0<q) (h:Near r p q) (h':Near s p q):¬ r<s:=by
 intro hlt
 have hr:r<9218868437227405312:=by have:=h'.le;omega
 have a1:=h.hi hr
 have a2:=h'.lo zxo
 have m1:V r≤V (s-1):=qdL zxo
 have m2:V (r+1)≤V s:=qdL zxo
 have m3:(V r+V (r+1))*q≤(V (s-1)+V s)*q:=Nat.mul_le_mul_right _ zxo
 have heq:(V r+V (r+1))*q=(V (s-1)+V s)*q:=by omega
 have heq2:=Nat.eq_of_mul_eq_mul_right hq heq
 have hs:s=r+1:=by
  have:V (r+1)=V s:=by omega
  exact(qiN this).symm
 subst hs
 rcases Nat.mod_two_eq_zero_or_one r with h0 | h0
 · have:=h'.loo zxo zxo
   omega
 · have:=h.hio hr h0
   omega
theorem Near.uniq {r s p q:Nat} (hq:0<q) (h:Near r p q) (h':Near s p q):r=s:=by
 have h1:=Near.not_lt hq h h'
 have h2:=Near.not_lt hq h' h
 omega
theorem Near.scale {r p q:Nat} (c:Nat) (hc:0<c) (h:Near r p q):Near r (p*c) (q*c) where
 le:=h.le
 hi:=fun hr=>by have:=Nat.mul_le_mul_right c (h.hi hr);rw[← Nat.mul_assoc,← Nat.mul_assoc];exact this
 hio:=fun hr ho=>by have:=Nat.mul_lt_mul_of_pos_right (h.hio hr ho) hc;rw[← Nat.mul_assoc,← Nat.mul_assoc];exact this
 lo:=fun hr=>by have:=Nat.mul_le_mul_right c (h.lo hr);rw[← Nat.mul_assoc,← Nat.mul_assoc];exact this
 loo:=fun hr ho=>by have:=Nat.mul_lt_mul_of_pos_right (h.loo hr ho) hc;rw[← Nat.mul_assoc,← Nat.mul_assoc];exact this
theorem qpF (d k:Nat) (hk:k≤9007199254740992) (hd:d=0∨4503599627370496≤k):V (d*4503599627370496+k)=k*2^d:=by
 unfold V
 rcases Nat.lt_or_ge k 9007199254740992 with h | h
 · rcases Nat.lt_or_ge k 4503599627370496 with h1 | h1
   · have:d=0:=by omega
     subst this
     rw[if_pos zxo];simp
   · rw[if_neg zxo]
     have e1:(d*4503599627370496+k)%4503599627370496=k-4503599627370496:=by omega
     have e2:(d*4503599627370496+k)/4503599627370496-1=d:=by omega
     rw[e1,e2,show 4503599627370496+(k-4503599627370496)=k by omega]
 · have hk2:k=9007199254740992:=by omega
   subst hk2
   rw[if_neg zxo]
   have e1:(d*4503599627370496+9007199254740992)%4503599627370496=0:=by omega
   have e2:(d*4503599627370496+9007199254740992)/4503599627370496-1=d+1:=by omega
   rw[e1,e2,Nat.pow_succ]
   omega
theorem QL (d p q:Nat) (hq:0<q) (hhi:p<9007199254740992*(q*2^d)) (hlo:d=0∨4503599627370496*(q*2^d)≤p) :
  Near (min (d*4503599627370496+rhe p (q*2^d)) 9218868437227405312) p q:=by
 have hQ:0<q*2^d:=Nat.mul_pos hq (Nat.two_pow_pos d)
 have hs:=JZ p (q*2^d) hQ
 have hl:=qah p (q*2^d)
 have hk1:p/(q*2^d)<9007199254740992:=by rw[Nat.div_lt_iff_lt_mul hQ];exact hhi
 have hk2:d=0∨4503599627370496≤p/(q*2^d):=by
  rcases hlo with h | h
  · exact .inl h
  · right;rw[Nat.le_div_iff_mul_le hQ];exact h
 generalize rhe p (q*2^d)=k at *
 generalize p/(q*2^d)=f at *
 have hkd:d=0∨4503599627370496≤k:=by omega
 have hVr:=qpF d k zxo hkd
 obtain⟨s1,s2,s3⟩:=hs
 have eV:V (d*4503599627370496+k)*q=k*(q*2^d):=by rw[hVr];ac_rfl
 have hpar:(d*4503599627370496+k)%2=k%2:=by omega
 have up:2*p≤(V (d*4503599627370496+k)+V (d*4503599627370496+k+1))*q∧(k%2=1→2*p<(V (d*4503599627370496+k)+V (d*4503599627370496+k+1))*q):=by
  rcases Nat.lt_or_ge k 9007199254740992 with h | h
  · have h1:=qpF d (k+1) zxo zxo
    rw[← Nat.add_assoc] at h1
    have e:(V (d*4503599627370496+k)+V (d*4503599627370496+k+1))*q=(2*k+1)*(q*2^d):=by
     rw[hVr,h1,← Nat.add_mul,show k+(k+1)=2*k+1 by omega];ac_rfl
    rw[e]
    exact⟨s1,fun ho=>(s3 ho).1⟩
  · have hk:k=9007199254740992:=by omega
    have hlt:2*p<(V (d*4503599627370496+k)+V (d*4503599627370496+k+1))*q:=by
     have h1:V (d*4503599627370496+k)≤V (d*4503599627370496+k+1):=qdL zxo
     have h2:=Nat.mul_le_mul_right q h1
     rw[Nat.add_mul,eV]
     rw[eV] at h2
     rw[hk] at h2 ⊢
     omega
    exact⟨Nat.le_of_lt hlt,fun _=>hlt⟩
 have dn:0<d*4503599627370496+k→(V (d*4503599627370496+k-1)+V (d*4503599627370496+k))*q≤2*p∧(k%2=1→(V (d*4503599627370496+k-1)+V (d*4503599627370496+k))*q<2*p):=by
  intro hpos
  by_cases hc:d=0∨4503599627370496+1≤k
  · have hk0:1≤k:=by omega
    have h1:=qpF d (k-1) zxo zxo
    have e0:d*4503599627370496+(k-1)=d*4503599627370496+k-1:=by omega
    rw[e0] at h1
    have e:(V (d*4503599627370496+k-1)+V (d*4503599627370496+k))*q+q*2^d=2*k*(q*2^d):=by
     rw[hVr,h1,← Nat.add_mul]
     have:(k-1+k)*2^d*q=(k-1+k)*(q*2^d):=by ac_rfl
     rw[this]
     have h2:(k-1+k)*(q*2^d)+(q*2^d)=(k-1+k+1)*(q*2^d):=by rw[Nat.succ_mul]
     rw[h2,show k-1+k+1=2*k by omega]
    refine⟨by omega,fun ho=>?_⟩
    have:=(s3 ho).2
    omega
  · have hk:k=4503599627370496:=by omega
    have hlo2:4503599627370496*(q*2^d)≤p:=by
     rcases hlo with h | h
     · omega
     · exact h
    have hlt:(V (d*4503599627370496+k-1)+V (d*4503599627370496+k))*q<2*p:=by
     have h1:V (d*4503599627370496+k-1)<V (d*4503599627370496+k):=jR zxo
     have h2:=Nat.mul_lt_mul_of_pos_right h1 hq
     rw[Nat.add_mul]
     rw[eV] at h2 ⊢
     rw[hk] at h2 ⊢
     omega
    exact⟨Nat.le_of_lt hlt,fun _=>hlt⟩
 rcases Nat.lt_or_ge 9218868437227405312 (d*4503599627370496+k) with hbig | hsm
 · -- beyond
   rw[Nat.min_eq_right zxo]
   have hd:2046≤d:=by omega
   have hlo2:4503599627370496*(q*2^d)≤p:=by
    rcases hlo with h | h
    · omega
    · exact h
   obtain⟨N,hN⟩:∃ N:Nat,N=2046:=⟨_,rfl⟩
   have hpw:2^N≤2^d:=Nat.pow_le_pow_right zxd zxo
   have hV:V 9218868437227405312=4503599627370496*2^N:=by
    have:=qpF N 4503599627370496 zxo zxo
    rwa [show N*4503599627370496+4503599627370496=9218868437227405312 by omega] at this
   have hVl:V (9218868437227405312-1)<V 9218868437227405312:=jR zxo
   have hle:V 9218868437227405312*q≤p:=by
    rw[hV]
    refine Nat.le_trans ?_ hlo2
    rw[Nat.mul_assoc,Nat.mul_comm q]
    exact Nat.mul_le_mul_left _ (Nat.mul_le_mul_right _ hpw)
   have h2:=Nat.mul_lt_mul_of_pos_right hVl hq
   refine⟨Nat.le_refl _,fun h=>absurd h zxo,fun h=>absurd h zxo,fun _=>?_,fun _ h=>absurd h zxo⟩
   rw[Nat.add_mul]
   generalize V 9218868437227405312*q=X at *
   generalize V (9218868437227405312-1)*q=Y at *
   omega
 · rw[Nat.min_eq_left hsm]
   exact⟨hsm,fun _=>up.1,fun _ ho=>up.2 zxo,fun h0=>(dn h0).1,fun h0 ho=>(dn h0).2 zxo⟩
theorem qpc (neg:Bool) (n d:Nat) (hn:n≠0):Ieee.Toward.even.cut neg n d=rhe n (2^d):=by
 rcases Nat.lt_or_ge (n.log2+2) d with h | h
 · have h1:=Nat.lt_log2_self (n:=n)
   have h2:2^(n.log2+2)=2*2^(n.log2+1):=by rw[Nat.pow_succ 2 (n.log2+1)];omega
   have h3:2^(n.log2+2)≤2^d:=Nat.pow_le_pow_right zxd zxo
   unfold Ieee.Toward.cut rhe
   simp only[Nat.min_eq_right (Nat.le_of_lt h),Nat.shiftLeft_eq,Nat.one_mul]
   rw[Nat.div_eq_of_lt (by omega:n<2^(n.log2+2)),Nat.mod_eq_of_lt (by omega:n<2^(n.log2+2)),Nat.div_eq_of_lt (by omega:n<2^d),Nat.mod_eq_of_lt (by omega:n<2^d)]
   have d1:decide (2^(n.log2+2)<2*n)=false:=by simp;omega
   have d2:decide (2^d<2*n)=false:=by simp;omega
   rw[d1,d2]
   simp
 · rw[qcG neg n d h]
   rfl
theorem qaK (neg:Bool) (m:Nat) (hm:m≠0) (e:Int) (a b:Nat) (h:e+1074=(a:Int)-(b:Int)):∃ r,Ieee.double.nearest neg m e=Ieee.double.word neg r∧Near r (m*2^a) (2^b) ∧
  ∃ d,r=min (d*4503599627370496+rhe (m*2^a) (2^b*2^d)) 9218868437227405312∧(d:Int)=max (e+m.log2-52) (-1074)+1074:=by
 unfold Ieee.Format.nearest
 rw[if_neg hm]
 have h1:=Nat.log2_self_le hm
 have h2:=Nat.lt_log2_self (n:=m)
 simp only[jz,qq9,qcy,quz]
 generalize hL:m.log2=L at *
 obtain⟨d,hd⟩:∃ d:Nat,(d:Int)=max (e+(L:Int)-52) (-1074)+1074:=⟨(max (e+(L:Int)-52) (-1074)+1074).toNat,by omega⟩
 have hmax:max (e+(L:Int)-((52:Nat):Int)) (-1074)=(d:Int)-1074:=by
  rw[show((52:Nat):Int)=52 by rfl];omega
 rw[hmax]
 have e1:((d:Int)-1074 - -1074).toNat=d:=by omega
 have e2:(e-((d:Int)-1074)).toNat=a-(b+d):=by omega
 have e3:((d:Int)-1074-e).toNat=b+d-a:=by omega
 rw[e1,e2,e3,Nat.shiftLeft_eq,qpc _ _ _ (by have:=Nat.mul_pos (Nat.pos_of_ne_zero hm) (Nat.two_pow_pos (a-(b+d)));omega)]
 have e4:rhe (m*2^(a-(b+d))) (2^(b+d-a))=rhe (m*2^a) (2^b*2^d):=by
  rw[← Nat.pow_add]
  rcases Nat.le_total a (b+d) with hc | hc
  · rw[show a-(b+d)=0 by omega,← Qe _ _ (2^a) (Nat.two_pow_pos a),← Nat.pow_add,show b+d-a+a=b+d by omega];simp
  · rw[show b+d-a=0 by omega,← Qe _ _ (2^(b+d)) (Nat.two_pow_pos _),Nat.mul_assoc,← Nat.pow_add,show a-(b+d)+(b+d)=a by omega];simp
 rw[e4]
 have hp:9007199254740992*(2^b*2^d)=2^(53+b+d):=by rw[show(9007199254740992:Nat)=2^53 by decide,← Nat.pow_add,← Nat.pow_add];congr 1;omega
 have hp2:4503599627370496*(2^b*2^d)=2^(52+b+d):=by rw[show(4503599627370496:Nat)=2^52 by decide,← Nat.pow_add,← Nat.pow_add];congr 1;omega
 refine⟨_,rfl,QL d (m*2^a) (2^b) (Nat.two_pow_pos b) ?_ ?_,d,rfl,hd⟩
 · rw[hp]
   have:m*2^a<2^(L+1)*2^a:=Nat.mul_lt_mul_of_pos_right h2 (Nat.two_pow_pos a)
   rw[← Nat.pow_add] at this
   exact Nat.lt_of_lt_of_le this (Nat.pow_le_pow_right zxd zxo)
 · rw[hp2]
   by_cases hd0:d=0
   · exact .inl hd0
   · right
     have:2^L*2^a≤m*2^a:=Nat.mul_le_mul_right _ h1
     exact qrm
def spM (b:Nat):Nat:=if b%9223372036854775808/4503599627370496=0 then b%4503599627370496 else b%4503599627370496+4503599627370496
def spE (b:Nat):Int:=if b%9223372036854775808/4503599627370496=0 then -1074 else ((b%9223372036854775808/4503599627370496:Nat):Int)-1075
def rdD (p q:Nat):Nat:=if p/q<9007199254740992 then 0 else (p/q).log2-52
def rd (p q:Nat):Nat:=min (rdD p q*4503599627370496+rhe p (q*2^rdD p q)) 9218868437227405312
theorem qcl (p q:Nat) (hq:0<q):Near (rd p q) p q:=by
 unfold rd
 refine QL (rdD p q) p q hq ?_ ?_
 · unfold rdD
   split
   · rename_i h
     rw[Nat.pow_zero,Nat.mul_one]
     exact(Nat.div_lt_iff_lt_mul hq).1 h
   · rename_i h
     have h2:=Nat.lt_log2_self (n:=p/q)
     have h0:p/q≠0:=by omega
     have hL:53≤(p/q).log2:=by rw[Nat.le_log2 h0];omega
     have e:9007199254740992*(q*2^((p/q).log2-52))=2^((p/q).log2+1)*q:=by
      rw[show(9007199254740992:Nat)=2^53 by decide,Nat.mul_comm q,← Nat.mul_assoc,← Nat.pow_add,show 53+((p/q).log2-52)=(p/q).log2+1 by omega]
     rw[e]
     exact(Nat.div_lt_iff_lt_mul hq).1 h2
 · unfold rdD
   split
   · exact .inl rfl
   · rename_i h
     right
     have h0:p/q≠0:=by omega
     have h1:=Nat.log2_self_le h0
     have hL:53≤(p/q).log2:=by rw[Nat.le_log2 h0];omega
     have e:4503599627370496*(q*2^((p/q).log2-52))=2^((p/q).log2)*q:=by
      exact qte
     rw[e]
     exact(Nat.le_div_iff_mul_le hq).1 h1
theorem Near.rd {r p q:Nat} (hq:0<q) (h:Near r p q):r=rd p q:=h.uniq hq (qcl p q hq)
theorem J8 (p q c:Nat) (hq:0<q) (hc:0<c):rd (p*c) (q*c)=rd p q:=(((qcl p q hq).scale c hc).rd (Nat.mul_pos hq hc)).symm
theorem qu7 (p q:Nat):rd p q≤9218868437227405312:=by unfold rd;omega
theorem qej (q:Nat):rd 0 q=0:=by
 unfold rd rdD rhe
 simp
theorem qrc {r:Nat} (h:r<9218868437227405312):Near r (V r) 1 where
 le:=by omega
 hi:=fun _=>by have:=jR (show r<r+1 by omega);omega
 hio:=fun _ _=>by have:=jR (show r<r+1 by omega);omega
 lo:=fun h0=>by have:=jR (show r-1<r by omega);omega
 loo:=fun h0 _=>by have:=jR (show r-1<r by omega);omega
theorem qwV {r:Nat} (h:r<9218868437227405312):rd (V r) 1=r:=((qrc h).rd zxd).symm
def nr (m:Nat) (e:Int):Nat:=rd (m*2^(e+1074).toNat) (2^(-(e+1074)).toNat)
theorem qvG (m:Nat) (e:Int) (a b:Nat) (h:e+1074=(a:Int)-(b:Int)):nr m e=rd (m*2^a) (2^b):=by
 unfold nr
 obtain⟨c,hc⟩:∃ c,a=(e+1074).toNat+c:=⟨a-(e+1074).toNat,by omega⟩
 have hb:b=(-(e+1074)).toNat+c:=by omega
 rw[hc,hb,Nat.pow_add,Nat.pow_add,← Nat.mul_assoc,J8 _ _ _ (Nat.two_pow_pos _) (Nat.two_pow_pos _)]
theorem qf4 (neg:Bool) (m:Nat) (e:Int):Ieee.double.nearest neg m e=Ieee.double.word neg (nr m e):=by
 by_cases hm:m=0
 · subst hm
   unfold Ieee.Format.nearest nr
   rw[if_pos rfl,Nat.zero_mul,qej]
 · obtain⟨r,h1,h2,_⟩:=qaK neg m hm e (e+1074).toNat (-(e+1074)).toNat zxo
   rw[h1,h2.rd (Nat.two_pow_pos _)]
   rfl
def spK (b:Nat):Nat:=b%9223372036854775808/4503599627370496-1
theorem qkE (b:Nat):spE b=(spK b:Int)-1074:=by
 unfold spE spK
 split<;>omega
theorem quQ (b:Nat):spM b*2^spK b=V (b%9223372036854775808):=by
 unfold spM spK V
 have hm:b%4503599627370496=b%9223372036854775808%4503599627370496:=by omega
 split
 · rename_i h
   rw[if_pos zxo,h,hm]
   simp
   omega
 · rename_i h
   rw[if_neg zxo,hm,Nat.add_comm]
theorem qsx (b:Nat):spM b<9007199254740992:=by
 unfold spM
 have:b%4503599627370496<4503599627370496:=Nat.mod_lt _ zxd
 split<;>omega
theorem qsb (b:Nat) (hb:b<18446744073709551616):(b/9223372036854775808%2 == 1)=decide (9223372036854775808≤b):=by
 exact qt6
theorem qa1 (b:Nat) (hb:b<18446744073709551616) (h:b%9223372036854775808<9218868437227405312):Ieee.double.read b = .number (decide (9223372036854775808≤b)) (spM b) (spE b):=by
 unfold Ieee.Format.read
 simp only[qmK,qcy,quz,qsb b hb,jz]
 by_cases h1:b%9223372036854775808<4503599627370496
 · rw[if_pos h1]
   unfold spM spE
   rw[if_pos zxo,if_pos zxo]
   congr 1
   omega
 · rw[if_neg h1,if_pos h]
   unfold spM spE
   rw[if_neg zxo,if_neg zxo]
   congr 1
   · omega
   · omega
theorem qpn (m n:Nat) (hm:m≠0) (hn:n≠0) (hm2:m<9007199254740992) (i j:Int) (a b:Nat) (h:i-j+1074=(a:Int)-(b:Int)) :
  nr (2*((m <<< (54+n.log2-m.log2))/n)+((m <<< (54+n.log2-m.log2))%n != 0).toNat) (i-j-(54+n.log2-m.log2:Nat)-1)=rd (m*2^a) (n*2^b):=by
 have hl:m.log2≤52:=by
  have:m.log2<53:=by rw[Nat.log2_lt hm];exact hm2
  omega
 have m1:=Nat.log2_self_le hm
 have m2:=Nat.lt_log2_self (n:=m)
 have n1:=Nat.log2_self_le hn
 have n2:=Nat.lt_log2_self (n:=n)
 have hnp:0<n:=Nat.pos_of_ne_zero hn
 rw[Nat.shiftLeft_eq]
 generalize hmo:54+n.log2-m.log2=more at *
 generalize hD:m*2^more=D at *
 have hDlo:2^(n.log2+54)≤D:=by
  have:2^m.log2*2^more≤D:=by rw[← hD];exact Nat.mul_le_mul_right _ m1
  exact qrm
 have hq53:2^53≤D/n:=by
  rw[Nat.le_div_iff_mul_le hnp]
  have:2^53*n≤2^53*2^(n.log2+1):=Nat.mul_le_mul_left _ (Nat.le_of_lt n2)
  rw[← Nat.pow_add] at this
  exact Nat.le_trans this (by rw[show 53+(n.log2+1)=n.log2+54 by omega];exact hDlo)
 obtain⟨s,hs⟩:∃ s,(D%n != 0).toNat=s:=⟨_,rfl⟩
 have hs1:s≤1:=by rw[← hs];exact Bool.toNat_le _
 obtain⟨t,ht⟩:∃ t,2*(D/n)+s=t:=⟨_,rfl⟩
 have ht0:t≠0:=by
  have:=Nat.two_pow_pos 53;omega
 obtain⟨g,hg⟩:∃ g:Int,i-j-(more:Int)-1=g:=⟨_,rfl⟩
 rw[hs,ht,hg]
 obtain⟨r,e1,e2,d,e3,e4⟩:=qaK false t ht0 g (g+1074).toNat (-(g+1074)).toNat zxo
 have hr:nr t g=r:=((e2.rd (Nat.two_pow_pos _)).symm:_)
 rw[hr]
 have tL:54≤t.log2:=by
  rw[Nat.le_log2 ht0]
  have:2^54=2*2^53:=by decide
  omega
 have t1:=Nat.log2_self_le ht0
 have t2:=Nat.lt_log2_self (n:=t)
 generalize hL:t.log2=L at *
 obtain⟨k,hk⟩:∃ k:Nat,(d:Int)-1074-g=(k:Int)+2:=⟨((d:Int)-1074-g-2).toNat,by omega⟩
 have x1:rhe (t*2^(g+1074).toNat) (2^(-(g+1074)).toNat*2^d)=rhe t (2^(k+2)):=by
  rw[← Nat.pow_add,show(-(g+1074)).toNat+d=k+2+(g+1074).toNat by omega,Nat.pow_add,Qe _ _ _ (Nat.two_pow_pos _)]
 have x2:rhe t (2^(k+2))=rhe D (n*2^(k+1)):=by
  rw[← ht,← hs];exact qgl D n k hnp
 have x3:rhe D (n*2^(k+1))=rhe (m*2^a) (n*2^b*2^d):=by
  rw[← hD]
  have hx:more+(b+d)=a+(k+1):=by omega
  rw[← Qe (m*2^more) (n*2^(k+1)) (2^(b+d)) (Nat.two_pow_pos _),← Qe (m*2^a) (n*2^b*2^d) (2^(k+1)) (Nat.two_pow_pos _)]
  congr 1
  · rw[Nat.mul_assoc,Nat.mul_assoc,← Nat.pow_add,← Nat.pow_add,hx]
  · rw[Nat.mul_assoc,Nat.mul_assoc,Nat.mul_assoc,← Nat.pow_add,← Nat.pow_add,← Nat.pow_add,show k+1+(b+d)=b+(d+(k+1)) by omega]
 rw[x1,x2,x3] at e3
 rw[e3]
 have hDq:=Nat.div_add_mod D n
 have hDm:=Nat.mod_lt D hnp
 have hu1:D<2^L*n:=by
  have:D/n<2^L:=by rw[Nat.pow_succ] at t2;omega
  exact(Nat.div_lt_iff_lt_mul hnp).1 this
 have hu2:2^(L-1)*n≤D:=by
  have:2^(L-1)≤D/n:=by
   have:2^L=2*2^(L-1):=by rw[← Nat.pow_succ'];congr 1;omega
   omega
  exact(Nat.le_div_iff_mul_le hnp).1 this
 refine(QL d (m*2^a) (n*2^b) (Nat.mul_pos hnp (Nat.two_pow_pos b)) ?_ ?_).rd (Nat.mul_pos hnp (Nat.two_pow_pos b))
 · -- m 2^a < 2^53 n 2^b 2^d
   have c1:m*2^a*2^more<9007199254740992*(n*2^b*2^d)*2^more:=by
    rw[show m*2^a*2^more=D*2^a by rw[← hD];ac_rfl]
    have:=Nat.mul_lt_mul_of_pos_right hu1 (Nat.two_pow_pos a)
    refine Nat.lt_of_lt_of_le this ?_
    have e5:9007199254740992*(n*2^b*2^d)*2^more=2^(53+b+d+more)*n:=by
     rw[show(9007199254740992:Nat)=2^53 by decide,Nat.pow_add,Nat.pow_add,Nat.pow_add];ac_rfl
    rw[e5,show 2^L*n*2^a=2^(L+a)*n by rw[Nat.pow_add];ac_rfl]
    exact qsh
   exact Nat.lt_of_mul_lt_mul_right c1
 · by_cases hd0:d=0
   · exact .inl hd0
   · right
     have c1:4503599627370496*(n*2^b*2^d)*2^more≤m*2^a*2^more:=by
      rw[show m*2^a*2^more=D*2^a by rw[← hD];ac_rfl]
      have:=Nat.mul_le_mul_right (2^a) hu2
      refine Nat.le_trans ?_ this
      have e5:4503599627370496*(n*2^b*2^d)*2^more=2^(52+b+d+more)*n:=by
       rw[show(4503599627370496:Nat)=2^52 by decide,Nat.pow_add,Nat.pow_add,Nat.pow_add];ac_rfl
      rw[e5,show 2^(L-1)*n*2^a=2^(L-1+a)*n by rw[Nat.pow_add];ac_rfl]
      exact qsh
     exact Nat.le_of_mul_le_mul_right c1 (Nat.two_pow_pos more)
def jI:Nat:=1074
theorem Q9:jI=1074:=rfl
def jA:Nat:=1021
theorem Q1:jA=1021:=rfl
theorem qds (n k L:Nat) (h:(qC n).length≤L):(qC (n*2^k)).length≤L+k/16+1:=by
 refine jn _ _ ?_
 have h1:=qaG n
 have h2:(65536:Nat)^(qC n).length≤65536^L:=Nat.pow_le_pow_right zxd h
 have h3:(2:Nat)^k<65536^(k/16+1):=by
  exact qrf
 rw[Nat.add_assoc,Nat.pow_add]
 exact Nat.mul_lt_mul_of_lt_of_lt zxo h3
theorem qu3 (p q g K:Nat):∃ c,0<c∧p*2^(K-g)*c=p*2^K∧q*2^(g-K)*c=q*2^g:=by
 refine⟨2^min g K,Nat.two_pow_pos _,?_,?_⟩
 · rw[Nat.mul_assoc,← Nat.pow_add,show K-g+min g K=K by omega]
 · rw[Nat.mul_assoc,← Nat.pow_add,show g-K+min g K=g by omega]
theorem qel (p q g K:Nat):p*2^(K-g)<q*2^(g-K)↔p*2^K<q*2^g:=by
 obtain⟨c,hc,e1,e2⟩:=qu3 p q g K
 rw[← e1,← e2]
 exact(Nat.mul_lt_mul_right hc).symm
theorem qj9 (p q g K:Nat):rhe (p*2^(K-g)) (q*2^(g-K))=rhe (p*2^K) (q*2^g):=by
 obtain⟨c,hc,e1,e2⟩:=qu3 p q g K
 rw[← e1,← e2,Qe _ _ _ hc]
theorem qcZ (n m:Nat):(qC (n*m)).length≤(qC n).length+(qC m).length:=by
 refine jn _ _ ?_
 rw[Nat.pow_add]
 exact Nat.mul_lt_mul_of_lt_of_lt (qaG n) (qaG m)
theorem quh {n m:Nat} (h:n≤m):(qC n).length≤(qC m).length:=by
 rcases Nat.lt_or_ge (qC m).length (qC n).length with h1 | h1
 · have:=qfL h1;omega
 · exact h1
structure EInv (p q G g:Nat):Prop where
 le:g≤G
 lo:g=0∨4503599627370496*(q*2^g)≤p*2^jI
theorem EInv.next {p q G g:Nat} (h:EInv p q G g) (hc:¬ p*2^(jA-g)<q*2^(g-jA)) (hG:∀ g,G≤g→p*2^(jA-g)<q*2^(g-jA)):EInv p q G (g+1) where
 le:=by
  rcases Nat.lt_or_ge g G with h1 | h1
  · exact h1
  · exact absurd (hG g h1) hc
 lo:=by
  right
  rw[qel] at hc
  have e:jI=jA+53:=rfl
  rw[e,Nat.pow_add 2 jA 53,Nat.pow_succ,← Nat.mul_assoc p]
  generalize p*2^jA=P at *
  rw[← Nat.mul_assoc q]
  generalize q*2^g=Q at *
  rw[show(2:Nat)^53=9007199254740992 by decide]
  omega
theorem EInv.begin_ {p q bp bq:Nat} (hp:p≠0) (hq:q≠0) (h1:qd2 p bp) (h2:qd2 q bq) (g:Nat) (hg:(g=0∧(bp:Int)-bq-54 < -1074)∨(g:Int)=(bp:Int)-bq-54+1074):EInv p q (bp+jA) g where
 le:=by
  have:=(h2.2 hq).1
  have:=Q1
  omega
 lo:=by
  rcases hg with⟨h,_⟩ | hg
  · exact .inl h
  · right
    have hk:=Q9
    obtain⟨b1,b2⟩:=h1.2 hp
    have b3:=h2.1
    have e1:4503599627370496*(q*2^g)≤2^bq*2^(52+g):=by
     rw[show(4503599627370496:Nat)=2^52 by decide,Nat.pow_add 2 52 g]
     rw[show 2^52*(q*2^g)=q*(2^52*2^g) by ac_rfl]
     exact Nat.mul_le_mul_right _ (Nat.le_of_lt b3)
    have e2:2^(bp-1)*2^jI≤p*2^jI:=Nat.mul_le_mul_right _ b2
    rw[← Nat.pow_add] at e1 e2
    have e3:2^(bq+(52+g))≤2^(bp-1+jI):=Nat.pow_le_pow_right zxd zxo
    exact Nat.le_trans e1 (Nat.le_trans e3 e2)
theorem qvX {p q bp:Nat} (hq:q≠0) (h1:qd2 p bp):∀ g,bp+jA≤g→p*2^(jA-g)<q*2^(g-jA):=by
 intro g hg
 rw[qel]
 have a1:p*2^jA<2^bp*2^jA:=Nat.mul_lt_mul_of_pos_right h1.1 (Nat.two_pow_pos _)
 rw[← Nat.pow_add] at a1
 have a2:2^(bp+jA)≤2^g:=Nat.pow_le_pow_right zxd hg
 have a3:1*2^g≤q*2^g:=Nat.mul_le_mul_right _ zxo
 omega
theorem qbY {n b L:Nat} (h:qd2 n b) (hn:n≠0) (hl:(qC n).length≤L):b≤16*L:=by
 have h1:=qaG n
 have h2:=(h.2 hn).2
 have h3:(65536:Nat)^(qC n).length≤65536^L:=Nat.pow_le_pow_right zxd hl
 rw[show(65536:Nat)=2^16 by decide,← Nat.pow_mul,← Nat.pow_mul] at h3
 rw[show(65536:Nat)=2^16 by decide,← Nat.pow_mul] at h1
 rcases Nat.lt_or_ge (16*L) b with h4 | h4
 · have h5:2^(16*L)≤2^(b-1):=Nat.pow_le_pow_right zxd zxo
   omega
 · exact h4
structure MInv (a b j m:Nat):Prop where
 lo:m*b≤a
 hi:a<(m+2^j)*b
 le:m+2^j≤9007199254740992
theorem MInv.yes {a b j m:Nat} (h:MInv a b (j+1) m) (hc:(m+2^j)*b≤a):MInv a b j (m+2^j) where
 lo:=hc
 hi:=by have:=h.hi;rw[Nat.pow_succ] at this;rw[show m+2^j+2^j=m+2^j*2 by omega];exact this
 le:=by have:=h.le;rw[Nat.pow_succ] at this;omega
theorem MInv.no {a b j m:Nat} (h:MInv a b (j+1) m) (hc:¬ (m+2^j)*b≤a):MInv a b j m where
 lo:=h.lo
 hi:=by omega
 le:=by have:=h.le;rw[Nat.pow_succ] at this;omega
theorem qtT {a b m:Nat} (hb:0<b) (h:MInv a b 0 m):(a-m*b)*2^1<b→rhe a b=m:=by
 intro h2
 have hm:a/b=m:=by
  exact qnN
 have hr:a%b=a-m*b:=by
  exact qoP
 unfold rhe
 rw[hm,hr,decide_eq_false zxo]
 have:(b == 2*(a-m*b))=false:=by simp;omega
 rw[this];simp
theorem qnL {a b m:Nat} (hb:0<b) (h:MInv a b 0 m):(a-m*b)*2^1=b→rhe a b=if m%2=1 then m+1 else m:=by
 intro h2
 have hm:a/b=m:=by
  exact qnN
 have hr:a%b=a-m*b:=by
  exact qoP
 unfold rhe
 rw[hm,hr,decide_eq_false zxo]
 have:(b == 2*(a-m*b))=true:=by simp;omega
 rw[this]
 by_cases h5:m%2=1
 · rw[if_pos h5,h5];rfl
 · rw[if_neg h5,show m%2=0 by omega];rfl
theorem qlB {a b m:Nat} (hb:0<b) (h:MInv a b 0 m):b<(a-m*b)*2^1→rhe a b=m+1:=by
 intro h2
 have hm:a/b=m:=by
  exact qnN
 have hr:a%b=a-m*b:=by
  exact qoP
 unfold rhe
 rw[hm,hr,decide_eq_true zxo]
 rfl
theorem qmr {n m:Nat} (h:n<m):qdB n m = -1:=by unfold qdB;rw[if_pos h]
theorem qr1 {n m:Nat} (h:¬ n<m):∃ V,qdB n m=V∧¬ V<0∧(¬ n≤m→¬ V≤0)∧(n≤m→V≤0):=by
 refine⟨_,rfl,?_⟩
 unfold qdB
 rw[if_neg h]
 by_cases h2:n=m
 · rw[if_pos h2];exact⟨by decide,fun h3=>by omega,fun _=>by decide⟩
 · rw[if_neg h2];exact⟨by decide,fun _=>by decide,fun h3=>by omega⟩
theorem qt0 (n m:Nat):∃ V,qdB n m=V∧(n≤m→V≤0)∧(¬ n≤m→¬ V≤0):=by
 refine⟨_,rfl,?_⟩
 unfold qdB
 rcases Nat.lt_trichotomy n m with h | h | h
 · rw[if_pos h];exact⟨fun _=>by decide,fun h3=>by omega⟩
 · rw[if_neg zxo,if_pos h];exact⟨fun _=>by decide,fun h3=>by omega⟩
 · rw[if_neg zxo,if_neg zxo];exact⟨fun h3=>by omega,fun _=>by decide⟩
theorem qss (r:Nat):((Ieee.double.word true r:Nat):Int)=(r:Int)+9223372036854775808:=by unfold Ieee.Format.word;rw[qmK,if_pos rfl];omega
theorem qtk (r:Nat):((Ieee.double.word false r:Nat):Int)=(r:Int):=by unfold Ieee.Format.word;rw[if_neg zxd]
theorem qj4 {g R:Nat} (h:min (g*4503599627370496+9007199254740992) 9218868437227405312=R) (hg:2045≤g):R=9218868437227405312:=by omega
theorem qor {g R O:Nat} (h:min (g*4503599627370496+9007199254740992) 9218868437227405312=R) (hg:¬ 2045≤g) (hO:(g+2)*4503599627370496=O):R=O:=by omega
theorem qlG {g R M μ:Nat} (h:min (g*4503599627370496+M) 9218868437227405312=R) (hM:M=μ+4503599627370496) (hg:2046≤g):R=9218868437227405312:=by omega
theorem qn0 {g R M μ O O2:Nat} (h:min (g*4503599627370496+M) 9218868437227405312=R) (hM:M=μ+4503599627370496) (hμ:μ<4503599627370496) (hg:¬ 2046≤g) (hO:(g+1)*4503599627370496=O) (hO2:μ+O=O2):R=O2:=by omega
theorem qw4 {R M:Nat} (h:min (0*4503599627370496+M) 9218868437227405312=R) (hM:M<4503599627370496):R=M:=by omega
theorem qn2 {G O:Nat} (hG:G≤2046) (hO:G*4503599627370496=O):IntKind.u64.wrap ((G:Int)*4503599627370496)=(O:Int):=by
 have e:(G:Int)*4503599627370496=(O:Int):=by omega
 rw[e];simp only[IntKind.wrap,IntKind.bits,IntKind.signed];simp;omega
theorem qcr {x:Int} {O:Nat} (h:x=(O:Int)) (hO:O<18446744073709551616):IntKind.u64.wrap x=(O:Int):=by
 rw[h];simp only[IntKind.wrap,IntKind.bits,IntKind.signed];simp;omega
theorem qbm (neg:Bool) (p q:Nat) (A B:Option Addr) (ca cb:Nat) (w:World) (hp0:p≠0) (hq0:q≠0) (hp:(qC p).length≤250) (hq:(qC q).length≤250)
  (hA:RowOf uc 1 w w.heap.size A (qC p)) (hB:RowOf uc 1 w w.heap.size B (qC q)) :
  Calls Tryz.prog 149 #[.bool neg,.slice A (qC p).length ca,.slice B (qC q).length cb] w fun e w'=>e = .returned (.int .u64 (Ieee.double.word neg (rd (p*2^jI) q):Nat))∧Below w.heap.size w w':=by
 have HA:=zxi hA
 have HB:=zxi hB
 have HP:=zxi hp
 have HQ:=zxi hq
 have HB1:=zxi (qfh p A ca w zxo hA)
 clear hA hB hp hq
 go_enter Tryz.func149,Tryz.ntmps149
 go_wp2_with fail
 refine HB1.out.mono ?_
 rintro e w1 ⟨⟨bp,rfl,hbp,hBP⟩,hb1⟩
 have HW1:=zxi hb1
 have HBP:=zxi hBP
 have hbp2:bp≤4000:=by have:=qbY hBP hp0 HP.out;omega
 have HB2:=zxi (qfh q B cb w1 (by have:=HQ.out;omega) (HB.out.after zxn hb1))
 clear hb1 hBP
 go_wp2_with fail
 refine HB2.out.mono ?_
 rintro e w2 ⟨⟨bq,rfl,hbq,hBQ⟩,hb2⟩
 have HW2:=zxi (qa HW1.out hb2)
 have HBQ:=zxi hBQ
 have hbq2:bq≤4000:=by have:=qbY hBQ hq0 HQ.out;omega
 have HEX:=zxi (qvX hq0 HBP.out)
 have HBG:=zxi (fun g hg=>EInv.begin_ hp0 hq0 HBP.out HBQ.out g hg)
 clear hb2 hBQ
 go_upto_if 25 with(fail)
 go_cut [7] (fun s7 wx=>∃ g:Nat,s7 = .int .i64 ((g:Int)-1074)∧EInv p q (bp+jA) g∧wx=w2)
 case first =>
  by_cases ht:(bp:Int)-bq-54 < -1074
  · go_wp2_with fail
    go_meet
    exact⟨0,rfl,HBG.out 0 (.inl ⟨rfl,ht⟩),rfl⟩
  · obtain⟨g,hg⟩:∃ g:Nat,(g:Int)=(bp:Int)-bq-54+1074:=⟨((bp:Int)-bq-54+1074).toNat,by omega⟩
    have HG:=zxi hg
    clear hg
    go_wp2_with fail
    go_meet
    exact⟨g,by have:=HG.out;congr 1;omega,HBG.out g (.inr HG.out),rfl⟩
 case rest =>
  obtain⟨g0,rfl,hE0,rfl⟩:=hcut
  have HE0:=zxi hE0
  have hg00:=hE0.le
  clear hE0
  have hk21:jA=1021:=Q1
  have hg0b:g0≤5021:=by omega
  clear hg00 hk21
  go_wp2_with fail
  go_loopw [7] (fun sv wr=>∃ g:Nat,sv = .int .i64 ((g:Int)-1074)∧EInv p q (bp+jA) g∧Below w.heap.size w wr) (fun sv _=>(6000-(intOf sv)).toNat)
  case atStart=>exact⟨g0,rfl,HE0.out,HW2.out⟩
  case round =>
   obtain⟨g,rfl,hE,hbe⟩:=hrel
   have HE:=zxi hE
   have HBE:=zxi hbe
   have hgb:g≤5021:=by have h1:=hE.le;have h2:=Q1;omega
   clear hE hbe
   have HS:=qb5 p q (1021-(g:Int)) A B ca cb wr (by have:=HP.out;omega) (by have:=HQ.out;omega) zxo zxo (HA.out.after zxn HBE.out) (HB.out.after zxn HBE.out)
   rw[show(1021-(g:Int)).toNat=jA-g by rw[Q1];omega,show(-(1021-(g:Int))).toNat=g-jA by rw[Q1];omega] at HS
   have hla:(qC (p*2^(jA-g))).length≤1000:=by have h1:=qds p (jA-g) 250 HP.out;have h2:=Q1;omega
   have hlb:(qC (q*2^(g-jA))).length≤1000:=by have h1:=qds q (g-jA) 250 HQ.out;have h2:=Q1;omega
   obtain⟨a,ha⟩:∃ a,p*2^(jA-g)=a:=⟨_,rfl⟩
   obtain⟨b,hb⟩:∃ b,q*2^(g-jA)=b:=⟨_,rfl⟩
   rw[ha,hb] at HS
   rw[ha] at hla
   rw[hb] at hlb
   replace HS:=zxi HS
   have HLA:=zxi hla
   have HLB:=zxi hlb
   have HAA:=zxi ha
   have HBB:=zxi hb
   clear ha hb hla hlb
   have e1 : -((g:Int)-1074)-53=1021-(g:Int):=by omega
   go_wp2_with fail
   refine HS.out.mono ?_
   rintro e w3 ⟨⟨A3,c3,B3,d3,rfl,r3,s3⟩,hb3⟩
   have HC:=qeS a b A3 B3 c3 d3 w3 HLA.out HLB.out r3 s3
   have HB3:=zxi (qa HBE.out hb3)
   clear hb3 r3 s3
   by_cases hlt:a<b
   · rw[qmr hlt] at HC
     replace HC:=zxi HC
     have HLT:=zxi (show p*2^(jA-g)<q*2^(g-jA) by rw[HAA.out,HBB.out];exact hlt)
     clear hlt
     go_wp2_with fail
     refine HC.out.mono ?_
     rintro e w4 ⟨rfl,hb4⟩
     have HB4:=zxi (qa HB3.out hb4)
     clear hb4
     have HS2:=qb5 p q (1074-(g:Int)) A B ca cb w4 (by have:=HP.out;omega) (by have:=HQ.out;omega) zxo zxo (HA.out.after zxn HB4.out) (HB.out.after zxn HB4.out)
     rw[show(1074-(g:Int)).toNat=jI-g by rw[Q9];omega,show(-(1074-(g:Int))).toNat=g-jI by rw[Q9];omega] at HS2
     have hla:(qC (p*2^(jI-g))).length≤510:=by have h1:=qds p (jI-g) 250 HP.out;have h2:=Q9;omega
     have hlb:(qC (q*2^(g-jI))).length≤510:=by have h1:=qds q (g-jI) 250 HQ.out;have h2:=Q9;omega
     have hrhe:=qj9 p q g jI
     have hb0:0<q*2^(g-jI):=Nat.mul_pos (Nat.pos_of_ne_zero hq0) (Nat.two_pow_pos _)
     have hhi:p*2^jI<9007199254740992*(q*2^g):=by
      have h1:=(qel p q g jA).1 HLT.out
      have e:jI=jA+53:=rfl
      rw[e,Nat.pow_add 2 jA 53,← Nat.mul_assoc p,show(2:Nat)^53=9007199254740992 by decide]
      omega
     have hhi2:p*2^(jI-g)<9007199254740992*(q*2^(g-jI)):=by
      obtain⟨c,hc,f1,f2⟩:=qu3 p q g jI
      rw[← f1,← f2,← Nat.mul_assoc] at hhi
      exact Nat.lt_of_mul_lt_mul_right hhi
     have hnear:=(QL g (p*2^jI) q (Nat.pos_of_ne_zero hq0) hhi HE.out.lo).rd (Nat.pos_of_ne_zero hq0)
     have hsmall:g≠0→4503599627370496≤rhe (p*2^jI) (q*2^g):=fun h=>by
      have h1:=HE.out.lo.resolve_left h
      have h2:=(qah (p*2^jI) (q*2^g)).1
      have h3:4503599627370496≤p*2^jI/(q*2^g):=(Nat.le_div_iff_mul_le (Nat.mul_pos (Nat.pos_of_ne_zero hq0) (Nat.two_pow_pos g))).2 h1
      omega
     rw[← hrhe] at hnear hsmall
     obtain⟨a2,ha⟩:∃ a,p*2^(jI-g)=a:=⟨_,rfl⟩
     obtain⟨b2,hb⟩:∃ b,q*2^(g-jI)=b:=⟨_,rfl⟩
     rw[ha,hb] at HS2 hnear hsmall hhi2
     rw[ha] at hla
     rw[hb] at hlb hb0
     clear ha hb hrhe hhi HS HC HLA HLB HAA HBB HLT
     replace HS2:=zxi HS2
     have HLA:=zxi hla
     have HLB:=zxi hlb
     have HNEAR:=zxi hnear
     have HSM:=zxi hsmall
     have HB0:=zxi hb0
     have HHI:=zxi hhi2
     clear hla hlb hnear hsmall hb0 hhi2
     have e2 : -((g:Int)-1074)=1074-(g:Int):=by omega
     go_wp2_with fail
     refine HS2.out.mono ?_
     rintro e w5 ⟨⟨A5,c5,B5,d5,rfl,r5,s5⟩,hb5⟩
     have HB5:=zxi (qa HB4.out hb5)
     have HR5:=zxi r5
     have HS5:=zxi s5
     clear hb5 r5 s5
     go_wp2_with fail
     go_loopw [12,13] (fun mv iv wr=>∃ (j m:Nat),j≤53∧mv = .int .u64 m∧iv = .int .i64 ((j:Int)-1)∧MInv a2 b2 j m∧Below w5.heap.size w5 wr) (fun _ iv _=>((intOf iv)+1).toNat)
     case atStart=>exact⟨53,0,Nat.le_refl _,rfl,rfl,⟨by rw[Nat.zero_mul];exact Nat.zero_le _,by rw[Nat.zero_add,show(2:Nat)^53=9007199254740992 by decide];exact HHI.out,by decide⟩,Below.refl _ _⟩
     case round =>
      obtain⟨j,m,hj,rfl,rfl,hM,hbe2⟩:=hrel
      have HM:=zxi hM
      have HBE2:=zxi hbe2
      have hm53:m<9007199254740992:=by have h1:=hM.le;have h2:=Nat.two_pow_pos j;omega
      clear hM hbe2
      by_cases hj0:j=0
      · subst hj0
        have HO:=zxi (qcg m zxo wr)
        have hml:(qC m).length≤4:=jn 4 m (by rw[show(65536:Nat)^4=18446744073709551616 by decide];omega)
        have HML:=zxi hml
        clear hml
        go_wp2_with fail
        refine HO.out.mono ?_
        rintro e w6 ⟨⟨A6,c6,rfl,_,r6⟩,hb6⟩
        have HT:=Je m b2 A6 B5 c6 d5 w6 (by have:=HML.out;omega) (by have:=HLB.out;omega) r6 (HS5.out.after zxn (qa HBE2.out hb6))
        have HB6:=zxi (qa HBE2.out hb6)
        have hl7:(qC (m*b2)).length≤1000:=by have h1:=qcZ m b2;have h2:=HML.out;have h3:=HLB.out;omega
        have hxa:=HM.out.lo
        obtain⟨x,hx⟩:∃ x,m*b2=x:=⟨_,rfl⟩
        rw[hx] at HT hl7 hxa
        replace HT:=zxi HT
        have HX:=zxi hx
        have HXA:=zxi hxa
        have HL7:=zxi hl7
        clear hb6 r6 hx hxa hl7
        go_wp2_with fail
        refine HT.out.mono ?_
        rintro e w7 ⟨⟨A7,c7,rfl,_,r7⟩,hb7⟩
        have HB7:=zxi (qa HB6.out hb7)
        have HLE:=qkp a2 x A5 A7 c5 c7 w7 (by have:=HLA.out;omega) HXA.out (HR5.out.after zxn HB7.out) r7
        have hlr:(qC (a2-x)).length≤510:=by have h1:=quh (Nat.sub_le a2 x);have h2:=HLA.out;omega
        obtain⟨y,hy⟩:∃ y,a2-x=y:=⟨_,rfl⟩
        rw[hy] at HLE hlr
        replace HLE:=zxi HLE
        have HY:=zxi hy
        have HLR:=zxi hlr
        clear hb7 r7 hy hlr
        go_wp2_with fail
        refine HLE.out.mono ?_
        rintro e w8 ⟨⟨A8,c8,rfl,_,r8⟩,hb8⟩
        have HB8:=zxi (qa HB7.out hb8)
        have HU:=qjy y 1 A8 c8 w8 (by have:=HLR.out;omega) r8
        have hlz:(qC (y*2^1)).length≤1000:=by have h1:=qds y 1 510 HLR.out;omega
        obtain⟨z,hz⟩:∃ z,y*2^1=z:=⟨_,rfl⟩
        rw[hz] at HU hlz
        replace HU:=zxi HU
        have HZ:=zxi hz
        have HLZ:=zxi hlz
        clear hb8 r8 hz hlz
        go_wp2_with fail
        refine HU.out.mono ?_
        rintro e w9 ⟨⟨A9,c9,rfl,_,r9⟩,hb9⟩
        have HB9:=zxi (qa HB8.out hb9)
        have HCC:=qeS z b2 A9 B5 c9 d5 w9 HLZ.out (by have:=HLB.out;omega) r9 (HS5.out.after zxn HB9.out)
        obtain⟨V,hV⟩:∃ V,qdB z b2=V:=⟨_,rfl⟩
        rw[hV] at HCC
        replace HCC:=zxi HCC
        have HV:=zxi hV
        have hM53:rhe a2 b2≤9007199254740992:=by
         have h1:=(qah a2 b2).2
         have h2:a2/b2<9007199254740992:=(Nat.div_lt_iff_lt_mul HB0.out).2 HHI.out
         omega
        have HM53:=zxi hM53
        clear hb9 r9 hV hM53
        go_wp2_with fail
        refine HCC.out.mono ?_
        rintro e w10 ⟨rfl,hb10⟩
        have HB10:=zxi (qa HB5.out (qa HB9.out hb10))
        clear hb10
        go_upto_region 17 with(fail)
        go_cut [86] from 76 to 108 (fun s86 wx=>∃ β:Bool,s86 = .bool β∧m+β.toNat=rhe a2 b2∧wx=w10)
        case first =>
         rcases Nat.lt_trichotomy z b2 with h | h | h
         · have hr:=qtT HB0.out HM.out (by rw[HX.out,HY.out,HZ.out];exact h)
           have hv:V = -1:=by rw[← HV.out];exact qmr h
           have HR:=zxi hr
           subst hv
           clear h hr
           go_wp2_with fail
           go_meet
           exact⟨false,rfl,HR.out.symm,rfl⟩
         · have hr:=qnL HB0.out HM.out (by rw[HX.out,HY.out,HZ.out];exact h)
           have hv:V=0:=by rw[← HV.out];unfold qdB;rw[if_neg zxo,if_pos h]
           subst hv
           clear h
           by_cases ho:m%2=1
           · rw[if_pos ho] at hr
             have HR:=zxi hr
             have ho1:((m:Int)%2 == 1)=true:=by simp;omega
             have ho2:(m:Int)%2=1:=by omega
             clear hr ho
             go_wp2_with fail
             go_meet
             exact⟨true,rfl,HR.out.symm,rfl⟩
           · rw[if_neg ho] at hr
             have HR:=zxi hr
             have ho1:((m:Int)%2 == 1)=false:=by simp;omega
             clear hr ho
             go_wp2_with fail
             go_meet
             exact⟨false,rfl,HR.out.symm,rfl⟩
         · have hr:=qlB HB0.out HM.out (by rw[HX.out,HY.out,HZ.out];exact h)
           have hv:V=1:=by rw[← HV.out];unfold qdB;rw[if_neg zxo,if_neg zxo]
           have HR:=zxi hr
           subst hv
           clear h hr
           go_wp2_with fail
           go_meet
           exact⟨true,rfl,HR.out.symm,rfl⟩
        case rest =>
         obtain⟨β,rfl,hMr,rfl⟩:=hcut
         have hM1:=HM53.out
         have hM2:=HSM.out
         have hM3:=HNEAR.out
         rw[← hMr] at hM1 hM2 hM3
         obtain⟨R,hR⟩:∃ R,rd (p*2^jI) q=R:=⟨_,rfl⟩
         rw[hR] at hM3
         have HRR:=zxi hR
         obtain⟨M,hMm⟩:∃ M,m+β.toNat=M:=⟨_,rfl⟩
         rw[hMm] at hM1 hM2 hM3
         clear hMr hR HM HSM HNEAR HM53 HO HT HLE HU HCC HEX HBG HE0
         cases β with
         | true =>
          replace hMm:m+1=M:=hMm
          clear hM1
          by_cases hx:m=9007199254740991
          · obtain rfl:M=9007199254740992:=by omega
            obtain⟨G,hG⟩:∃ G:Nat,g+2=G:=⟨_,rfl⟩
            have eG:(g:Int)-1074+1+1075=(G:Int):=by omega
            have HG:=zxi hG
            have HR4:=zxi hM3
            clear hG hM3 hM2 hMm
            subst hx
            by_cases hg:2045≤g
            · obtain⟨O,hO⟩:∃ O,IntKind.u64.wrap ((G:Int)*4503599627370496)=O:=⟨_,rfl⟩
              have HFIN:=zxi (qj4 HR4.out hg)
              have hgt:(971:Int)<(g:Int)-1074+1:=by omega
              clear hg
              cases neg with
              | true =>exact qgz
              | false =>exact qf3
            · have hG2:G≤2046:=by have:=HG.out;omega
              obtain⟨O,hO⟩:∃ O,G*4503599627370496=O:=⟨_,rfl⟩
              have hO1:=qn2 hG2 hO
              have hO5:O≤9214364837600034816:=by omega
              have hO2:IntKind.u64.wrap (O:Int)=(O:Int):=qcr rfl zxo
              have HFIN:=zxi (qor (O:=O) HR4.out hg (by rw[HG.out];exact hO))
              have hgt:¬ (971:Int)<(g:Int)-1074+1:=by omega
              clear hg hO hG2
              cases neg with
              | true =>
               have hz:IntKind.u64.wrap ((O:Int)+9223372036854775808)=((O+9223372036854775808:Nat):Int):=qcr zxo zxo
               exact qgz
              | false =>exact qf3
          · have hm52:m<9007199254740991:=by omega
            clear hm53
            have hw1:IntKind.u64.wrap ((m:Int)+1)=(M:Int):=qcr zxo zxo
            have hM55:M<9007199254740992:=by omega
            have hq1:((M:Int) == 9007199254740992)=false:=by simp;omega
            have HR4:=zxi hM3
            clear hM3 hx hMm
            by_cases hb:4503599627370496≤M
            · obtain⟨μ,hμ⟩:∃ μ:Nat,M=μ+4503599627370496:=⟨M-4503599627370496,by omega⟩
              have hμ3:μ<4503599627370496:=by omega
              have hμ2:IntKind.u64.wrap ((M:Int)-4503599627370496)=(μ:Int):=qcr zxo zxo
              have hb1:(4503599627370496:Int)≤(M:Int):=by omega
              exact qwU
            · have hg0:g=0:=by
               exact qqW
              have hb1:¬ (4503599627370496:Int)≤(M:Int):=by omega
              have hM6:M<4503599627370496:=by omega
              have HR5:=zxi (show min (0*4503599627370496+M) 9218868437227405312=R by have h:=HR4.out;rw[hg0] at h;exact h)
              have HFIN:=zxi (qw4 HR5.out hM6)
              subst hg0
              clear hb hM2 hM55
              cases neg with
              | true =>
               have hz:IntKind.u64.wrap ((M:Int)+9223372036854775808)=((M+9223372036854775808:Nat):Int):=qcr zxo zxo
               exact qgz
              | false =>exact qf3
         | false =>
          replace hMm:m=M:=hMm
          clear hM1
          subst hMm
          have hM55:m<9007199254740992:=by omega
          have hq1:((m:Int) == 9007199254740992)=false:=by simp;omega
          have HR4:=zxi hM3
          clear hM3
          by_cases hb:4503599627370496≤m
          · obtain⟨μ,hμ⟩:∃ μ:Nat,m=μ+4503599627370496:=⟨m-4503599627370496,by omega⟩
            have hμ3:μ<4503599627370496:=by omega
            have hμ2:IntKind.u64.wrap ((m:Int)-4503599627370496)=(μ:Int):=qcr zxo zxo
            have hb1:(4503599627370496:Int)≤(m:Int):=by omega
            exact qwU
          · have hg0:g=0:=by
             exact qqW
            have hb1:¬ (4503599627370496:Int)≤(m:Int):=by omega
            have hM6:m<4503599627370496:=by omega
            have HR5:=zxi (show min (0*4503599627370496+m) 9218868437227405312=R by have h:=HR4.out;rw[hg0] at h;exact h)
            have HFIN:=zxi (qw4 HR5.out hM6)
            subst hg0
            clear hb hM2 hM55
            cases neg with
            | true =>
             have hz:IntKind.u64.wrap ((m:Int)+9223372036854775808)=((m+9223372036854775808:Nat):Int):=qcr zxo zxo
             exact qgz
            | false =>exact qf3
      · obtain⟨t,rfl⟩:∃ t,j=t+1:=⟨j-1,by omega⟩
        obtain⟨J,hJ⟩:∃ J:Nat,2^t=J:=⟨_,rfl⟩
        have hJ2:J≤4503599627370496:=by
         have:2^t≤2^52:=Nat.pow_le_pow_right zxd zxo
         rw[hJ] at this;exact this
        have hJ3:((2:Int)^t)=(J:Int):=by rw[← hJ];push_cast;rfl
        have hsh:IntKind.u64.wrap ((2:Int)^t)=(J:Int):=by
         rw[hJ3];simp only[IntKind.wrap,IntKind.bits,IntKind.signed];simp;omega
        have e3:((t+1:Nat):Int)-1=(t:Int):=by omega
        obtain⟨mo,hmo⟩:∃ mo,m+J=mo:=⟨_,rfl⟩
        have hmo1:(m:Int)+(J:Int)=(mo:Int):=by omega
        have hmo2:mo≤9007199254740992:=by have:=HM.out.le;rw[Nat.pow_succ,hJ] at this;omega
        have HMO:=zxi (show m+2^t=mo by rw[hJ,hmo])
        have HO:=zxi (qcg mo zxo wr)
        have hmol:(qC mo).length≤4:=jn 4 mo (by rw[show(65536:Nat)^4=18446744073709551616 by decide];omega)
        have HMOL:=zxi hmol
        rw[e3]
        clear hJ hJ3 hmo hmol
        go_wp2_with fail
        refine HO.out.mono ?_
        rintro e w6 ⟨⟨A6,c6,rfl,_,r6⟩,hb6⟩
        have HT:=zxi (Je mo b2 A6 B5 c6 d5 w6 (by have:=HMOL.out;omega) (by have:=HLB.out;omega) r6 (HS5.out.after zxn (qa HBE2.out hb6)))
        have HB6:=zxi (qa HBE2.out hb6)
        clear hb6 r6
        go_wp2_with fail
        refine HT.out.mono ?_
        rintro e w7 ⟨⟨A7,c7,rfl,_,r7⟩,hb7⟩
        have HB7:=zxi (qa HB6.out hb7)
        have hl7:(qC (mo*b2)).length≤1000:=by have h1:=qcZ mo b2;have h2:=HMOL.out;have h3:=HLB.out;omega
        have HC7:=qeS (mo*b2) a2 A7 A5 c7 c5 w7 hl7 (by have:=HLA.out;omega) r7 (HR5.out.after zxn HB7.out)
        obtain⟨x,hx⟩:∃ x,mo*b2=x:=⟨_,rfl⟩
        rw[hx] at HC7 ⊢
        obtain⟨V,hV,hV1,hV2⟩:=qt0 x a2
        rw[hV] at HC7
        replace HC7:=zxi HC7
        have HX:=zxi hx
        clear hb7 r7 hl7 hx hV
        by_cases hle:x≤a2
        · have hV3:V≤0:=hV1 hle
          have HLE:=zxi hle
          clear hV1 hV2 hle
          go_wp2_with fail
          refine HC7.out.mono ?_
          rintro e w8 ⟨rfl,hb8⟩
          go_wp2_with fail
          refine⟨⟨t,mo,by omega,rfl,rfl,by rw[← HMO.out];exact HM.out.yes (by rw[HMO.out,HX.out];exact HLE.out),qa HB7.out hb8⟩,by simp[intOf]<;>omega⟩
        · have hV3:¬ V≤0:=hV2 hle
          have HLE:=zxi hle
          clear hV1 hV2 hle
          go_wp2_with fail
          refine HC7.out.mono ?_
          rintro e w8 ⟨rfl,hb8⟩
          go_wp2_with fail
          refine⟨⟨t,m,by omega,rfl,rfl,HM.out.no (by rw[HMO.out,HX.out];exact HLE.out),qa HB7.out hb8⟩,by simp[intOf]<;>omega⟩
   · obtain⟨V,hV,hV1,_,_⟩:=qr1 hlt
     rw[hV] at HC
     replace HC:=zxi HC
     have HLT:=zxi (show ¬ p*2^(jA-g)<q*2^(g-jA) by rw[HAA.out,HBB.out];exact hlt)
     clear hlt hV
     go_wp2_with fail
     refine HC.out.mono ?_
     rintro e w4 ⟨rfl,hb4⟩
     go_wp2_with fail
     refine⟨⟨g+1,by congr 1;omega,HE.out.next HLT.out HEX.out,qa HB3.out hb4⟩,by simp[intOf]<;>omega⟩
def tf (a:Int):Nat:=Ieee.double.word (decide (a<0)) (jl a.natAbs)
theorem qcn (a:Int) (h0 : -9223372036854775808≤a) (h1:a≤9223372036854775807):floatOfInt .f64 a=tf a:=by
 show Ieee.double.nearest (decide (a<0)) a.natAbs 0=_
 rw[qeW _ _ zxo];rfl
def R (a:Int):Int:=sgn (decide (a<0)) (jl a.natAbs)
def tr (b:Nat):Nat:=spM b*2^(spE b).toNat/2^(-spE b).toNat
theorem qjb (w:World):Calls Tryz.prog 147 #[.int .u64 1] w fun e w'=>QH 1 e w'∧Below w.heap.size w w':=qcg 1 zxd w
end Go.Proofs.YtacdfjlncfidgaaGreatDoor
