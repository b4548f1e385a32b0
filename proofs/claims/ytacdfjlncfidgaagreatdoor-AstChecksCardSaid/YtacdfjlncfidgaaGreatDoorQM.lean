/- A part of what the claim leans on. -/
import Derived.Test.YtacdfjlncfidgaaGreatDoorQS
import Derived.Test.YtacdfjlncfidgaaGreatDoorQB
namespace Go.Proofs.YtacdfjlncfidgaaGreatDoor
open Go.RowKit
set_option linter.unusedVariables false
set_option linter.unusedSimpArgs false
set_option maxRecDepth 100000
set_option maxHeartbeats 1600000
def dv (l:List Nat):Nat:=l.foldl (fun n d=>n*10+d) 0
theorem qjd:dv []=0:=rfl
theorem qav (l:List Nat) (d:Nat):dv (l++[d])=dv l*10+d:=by unfold dv;rw[List.foldl_append];rfl
theorem qmk (l:List Nat):∀ acc,l.foldl (fun n d=>n*10+d) acc=acc*10^l.length+dv l:=by
 induction l with
 | nil=>intro acc;simp[dv]
 | cons d l ih =>
  intro acc
  have h2:dv (d::l)=(0*10+d)*10^l.length+dv l:=ih (0*10+d)
  rw[List.foldl_cons,ih,h2,List.length_cons,Nat.pow_succ]
  grind
theorem j9 (d:Nat) (l:List Nat):dv (d::l)=d*10^l.length+dv l:=by
 rw[dv,List.foldl_cons,qmk];simp
theorem qdC (a b:List Nat):dv (a++b)=dv a*10^b.length+dv b:=by
 rw[dv,List.foldl_append,qmk];rfl
def Digs (l:List Nat):Prop:=∀ d∈l,d<10
theorem Digs.nil:Digs []:=fun _ h=>by cases h
theorem Digs.cons {d:Nat} {l:List Nat} (h:d<10) (hl:Digs l):Digs (d::l):=fun x hx=>by
 rcases List.mem_cons.1 hx with rfl | hx
 · exact h
 · exact hl x hx
theorem Digs.snoc {d:Nat} {l:List Nat} (hl:Digs l) (h:d<10):Digs (l++[d]):=fun x hx=>by
 rcases List.mem_append.1 hx with hx | hx
 · exact hl x hx
 · rw[List.mem_singleton] at hx;rw[hx];exact h
theorem Digs.getD {l:List Nat} (hl:Digs l) (i:Nat):l.getD i 0<10:=by
 rw[List.getD_eq_getElem?_getD]
 rcases h:l[i]? with _ | x
 · simp
 · exact hl x (List.mem_of_getElem? h)
theorem Digs.take {l:List Nat} (hl:Digs l) (n:Nat):Digs (l.take n):=fun x hx=>hl x (List.mem_of_mem_take hx)
theorem Digs.drop {l:List Nat} (hl:Digs l) (n:Nat):Digs (l.drop n):=fun x hx=>hl x (List.mem_of_mem_drop hx)
theorem Jz {l:List Nat} (h:Digs l):dv l<10^l.length:=by
 induction l with
 | nil=>decide
 | cons d l ih =>
  rw[j9,List.length_cons,Nat.pow_succ]
  have h1:=ih fun x hx=>h x (List.mem_cons_of_mem _ hx)
  have h2:d<10:=h d (List.mem_cons_self ..)
  have h3:d*10^l.length≤9*10^l.length:=Nat.mul_le_mul_right _ zxo
  omega
def Lead (l:List Nat):Prop:=l.getD 0 0≠0
theorem Lead.ne {l:List Nat} (h:Lead l):l≠[]:=fun e=>h (by rw[e];rfl)
theorem qbR {l:List Nat} (h:Lead l):10^(l.length-1)≤dv l:=by
 cases l with
 | nil=>exact absurd rfl h
 | cons d l =>
  rw[j9,List.length_cons,Nat.add_sub_cancel]
  have h1:d≠0:=h
  have h3:1*10^l.length≤d*10^l.length:=Nat.mul_le_mul_right _ zxo
  omega
theorem qms {l:List Nat} (h:Lead l):0<dv l:=Nat.lt_of_lt_of_le (Nat.pow_pos zxd) (qbR h)
def pre (D:List Nat):Nat→Nat
 | 0=>0
 | r+1=>pre D r*10+D.getD r 0
theorem JG {D:List Nat} {r:Nat} (h:r<D.length):D.take (r+1)=D.take r++[D.getD r 0]:=by
 rw[List.take_add_one,List.getD_eq_getElem?_getD,List.getElem?_eq_getElem h];rfl
theorem qae {D:List Nat}:∀ {r:Nat},r≤D.length→pre D r=dv (D.take r)
 | 0,_=>by simp[pre,dv]
 | r+1,h=>by rw[pre,qae zxo,JG h,qav]
theorem qfD (D:List Nat):∀ j,pre D (D.length+j)=dv D*10^j
 | 0=>by rw[Nat.add_zero,qae zxn,List.take_length];simp
 | j+1=>by
  rw[← Nat.add_assoc,pre,qfD D j,List.getD_eq_getElem?_getD,List.getElem?_eq_none zxo,Nat.pow_succ]
  show dv D*10^j*10+0=_
  grind
theorem QV (D:List Nat) (r:Nat) (h:D.length≤r):pre D r=dv D*10^(r-D.length):=by
 have:=qfD D (r-D.length)
 rwa [show D.length+(r-D.length)=r by omega] at this
theorem qil {D:List Nat} (h:Lead D):∀ r,1≤r→10^(r-1)≤pre D r
 | 0,h0=>absurd h0 zxd
 | 1,_=>by
  have:D.getD 0 0≠0:=h
  show 10^0≤0*10+D.getD 0 0
  simp only[Nat.pow_zero]
  omega
 | r+2,_=>by
  have:=qil h (r+1) zxo
  show 10^(r+1)≤pre D (r+1)*10+D.getD (r+1) 0
  rw[Nat.add_sub_cancel] at this
  rw[Nat.pow_succ]
  omega
theorem qnC (V n K P c:Nat) (h:V*10*K+n=P):(V*10+n/K)*10*K+(n%K*10+c)=P*10+c:=by
 have:=Nat.div_add_mod n K
 subst h
 generalize n/K=q at *
 generalize n%K=m at *
 subst this
 grind
def qtX (L N k:Nat):Prop:=∃ M s t,N*10^t=M*2^k*10^s∧M<10^L
theorem qoo {L N j V n k:Nat} (hR:qtX L N k) (h:V*10*2^k+n=N*10^j) (h0:0<n) (h1:n<10*2^k) (hV:10^(L-1)≤V) (hL:0<L):False:=by
 obtain⟨M,s,t,he,hM⟩:=hR
 have hK:0<2^k:=Nat.two_pow_pos k
 have e1:(V*10*2^k+n)*10^t=M*2^k*10^(s+j):=by
  rw[h,Nat.pow_add]
  calc N*10^j*10^t=(N*10^t)*10^j:=by grind
   _=_:=by rw[he];grind
 have hL10:10^L=10^(L-1)*10:=by rw[← Nat.pow_succ];congr 1;omega
 generalize 2^k=K at *
 by_cases hst:s+j≤t
 · have e2:(V*10*K+n)*10^(t-(s+j))=M*K:=by
    apply Nat.eq_of_mul_eq_mul_right (Nat.pow_pos (n:=s+j) (show 0<10 by decide))
    rw[Nat.mul_assoc,← Nat.pow_add,show t-(s+j)+(s+j)=t by omega,e1]
   have e3:V*10*K+n≤(V*10*K+n)*10^(t-(s+j)):=Nat.le_mul_of_pos_right _ (Nat.pow_pos zxd)
   have e4:M*K<10^L*K:=Nat.mul_lt_mul_of_pos_right hM hK
   have e5:10^L*K≤V*10*K:=by rw[hL10];exact Nat.mul_le_mul_right _ (Nat.mul_le_mul_right _ hV)
   omega
 · obtain⟨u,hu⟩:∃ u,s+j=t+(u+1):=⟨s+j-t-1,by omega⟩
   rw[hu,Nat.pow_add] at e1
   have e2:V*10*K+n=M*K*10^(u+1):=by
    apply Nat.eq_of_mul_eq_mul_right (Nat.pow_pos (n:=t) (show 0<10 by decide))
    rw[e1];grind
   rw[Nat.pow_succ] at e2
   have e3:n=(M*10^u)*(10*K)-V*(10*K):=by
    have:M*K*(10^u*10)=(M*10^u)*(10*K):=by grind
    have h2:V*10*K=V*(10*K):=by grind
    omega
   rw[← Nat.mul_sub_right_distrib] at e3
   rcases Nat.eq_zero_or_pos (M*10^u-V) with h0' | hp
   · rw[h0'] at e3;omega
   · have:1*(10*K)≤(M*10^u-V)*(10*K):=Nat.mul_le_mul_right _ hp
     omega
theorem qn4 (n m d K S:Nat) (W:List Nat) (hm:W.length=m) (h:n*10^m+dv W=S*K) :
  (n+d*K)/10*10^(m+1)+dv ((n+d*K)%10::W)=(d*10^m+S)*K:=by
 have:=Nat.div_add_mod (n+d*K) 10
 rw[j9,hm,Nat.pow_succ]
 generalize (n+d*K)/10=q at *
 generalize (n+d*K)%10=r at *
 have e:q*(10^m*10)+(r*10^m+dv W)=(10*q+r)*10^m+dv W:=by grind
 rw[e,this,Nat.add_mul,Nat.add_mul]
 have e2:d*10^m*K=d*K*10^m:=by grind
 omega
theorem qqs (n m:Nat) (W:List Nat) (P:Nat) (hm:W.length=m) (h:n*10^m+dv W=P) :
  n/10*10^(m+1)+dv (n%10::W)=P:=by
 have:=Nat.div_add_mod n 10
 rw[j9,hm,Nat.pow_succ]
 generalize n/10=q at *
 generalize n%10=r at *
 have e:q*(10^m*10)+(r*10^m+dv W)=(10*q+r)*10^m+dv W:=by grind
 rw[e,this,h]
theorem qvP (n d K:Nat) (hn:n≤K) (hd:d<10):(n+d*K)/10≤K:=by
 have:d*K≤9*K:=Nat.mul_le_mul_right _ zxo
 omega
def JD:List Nat→List Nat→Bool
 | _,[]=>false
 | [],_::_=>true
 | d::D,c::C=>if d=c then JD D C else decide (d<c)
def LastNZ (C:List Nat):Prop:=∀ x,C.getLast?=some x→x≠0
theorem LastNZ.tail {c:Nat} {C:List Nat} (h:LastNZ (c::C)):LastNZ C:=by
 intro x hx
 cases C with
 | nil=>cases hx
 | cons y C=>exact h x (by rw[List.getLast?_cons_cons];exact hx)
theorem qeq:∀ {C:List Nat},LastNZ C→C≠[]→0<dv C
 | [],_,h=>absurd rfl h
 | [c],h,_=>by
  have:=h c rfl
  show 0<0*10+c
  omega
 | c::d::C,h,_=>by
  have:=qeq (C:=d::C) h.tail zxs
  rw[j9]
  omega
theorem qd7:∀ (D C:List Nat),Digs D→Digs C→LastNZ C→(JD D C=true↔dv D*10^C.length<dv C*10^D.length)
 | D,[],_,_,_=>by
  cases D<;>simp[JD,qjd]
 | [],c::C,_,_,h=>by
  have:=qeq h zxs
  simp[JD,qjd,this]
 | d::D,c::C,hD,hC,h=>by
  have ih:=qd7 D C (fun x hx=>hD x (List.mem_cons_of_mem _ hx)) (fun x hx=>hC x (List.mem_cons_of_mem _ hx)) h.tail
  have h1:=Jz (l:=D) (fun x hx=>hD x (List.mem_cons_of_mem _ hx))
  have h2:=Jz (l:=C) (fun x hx=>hC x (List.mem_cons_of_mem _ hx))
  have p1:0<10^C.length:=Nat.pow_pos zxd
  have p2:0<10^D.length:=Nat.pow_pos zxd
  rw[j9,j9,List.length_cons,List.length_cons,Nat.pow_succ,Nat.pow_succ]
  generalize dv D=X at *
  generalize dv C=Y at *
  generalize 10^D.length=A at *
  generalize 10^C.length=B at *
  unfold JD
  by_cases e:d=c
  · subst e
    rw[if_pos rfl,ih]
    have e1:(d*A+X)*(B*10)=d*A*B*10+X*B*10:=by grind
    have e2:(d*B+Y)*(A*10)=d*A*B*10+Y*A*10:=by grind
    rw[e1,e2]
    omega
  · rw[if_neg e,decide_eq_true_eq]
    have e1:(d*A+X)*(B*10)=d*(A*B)*10+X*B*10:=by grind
    have e2:(c*B+Y)*(A*10)=c*(A*B)*10+Y*A*10:=by grind
    rw[e1,e2]
    have hx:X*B<A*B:=Nat.mul_lt_mul_of_pos_right h1 p1
    have hy:Y*A<A*B:=by rw[Nat.mul_comm A B];exact Nat.mul_lt_mul_of_pos_right h2 p2
    generalize A*B=Z at *
    generalize X*B=U at *
    generalize Y*A=V at *
    constructor
    · intro hlt
      have:(d+1)*Z≤c*Z:=Nat.mul_le_mul_right _ hlt
      rw[Nat.add_mul,Nat.one_mul] at this
      omega
    · intro hlt
      rcases Nat.lt_or_ge d c with hh | hh
      · exact hh
      · exfalso
        have:(c+1)*Z≤d*Z:=Nat.mul_le_mul_right _ zxo
        rw[Nat.add_mul,Nat.one_mul] at this
        omega
def qcx (k delta:Nat) (C:List Nat):Bool :=
 decide (0<k)&&decide (0<delta)&&decide (C.length+delta=k+1)&&decide (dv C=5^k)&&decide (10^(delta-1)≤2^k)&&decide (2^k<10^delta)&&C.all (fun d=>decide (d<10))&&decide (C.getLast?≠some 0)
structure Cheat (k delta:Nat) (C:List Nat):Prop where
 k0:0<k
 d0:0<delta
 len:C.length+delta=k+1
 five:dv C=5^k
 lo:10^(delta-1)≤2^k
 hi:2^k<10^delta
 dg:Digs C
 last:LastNZ C
theorem qlH {k delta:Nat} {C:List Nat} (h:qcx k delta C=true):Cheat k delta C:=by
 unfold qcx at h
 simp only[Bool.and_eq_true,decide_eq_true_eq,List.all_eq_true] at h
 obtain⟨⟨⟨⟨⟨⟨⟨h1,h2⟩,h3⟩,h4⟩,h5⟩,h6⟩,h7⟩,h8⟩:=h
 exact⟨h1,h2,h3,h4,h5,h6,h7,fun x hx e=>h8 (by rw[hx,e])⟩
def lsT (D C:List Nat) (delta:Nat):Nat:=D.length+delta-(JD D C).toNat
theorem qtp {k delta:Nat} {D C:List Nat} (hc:Cheat k delta C) (hD:Digs D) (hl:Lead D) :
  10^(lsT D C delta-1)≤dv D*2^k∧dv D*2^k<10^lsT D C delta∧D.length≤lsT D C delta∧lsT D C delta≤D.length+delta∧0<lsT D C delta:=by
 have hpos:0<D.length:=List.length_pos_iff.2 hl.ne
 have hlt:=Jz hD
 have hge:=qbR hl
 have h5:0<5^k:=Nat.pow_pos zxd
 have hK:0<2^k:=Nat.two_pow_pos k
 have h10:2^k*5^k=10^k:=by rw[← Nat.mul_pow]
 have hi:=qd7 D C hD hc.dg hc.last
 have key:dv D*2^k*5^k=dv D*10^C.length*10^(delta-1):=by
  rw[Nat.mul_assoc,h10,Nat.mul_assoc,← Nat.pow_add]
  congr 2
  have:=hc.len;have:=hc.d0;omega
 have d0:=hc.d0
 unfold lsT
 by_cases hp:JD D C=true
 · rw[hp]
   have hless:=hi.1 hp
   refine⟨?_,?_,by simp;omega,by simp,by simp;omega⟩
   · have:10^(D.length-1)*10^(delta-1)≤dv D*2^k:=Nat.mul_le_mul hge hc.lo
     rw[← Nat.pow_add] at this
     rwa [show D.length+delta-true.toNat-1=D.length-1+(delta-1) by simp;omega]
   · apply Nat.lt_of_mul_lt_mul_right (a:=5^k)
     rw[key,hc.five] at *
     rw[show D.length+delta-true.toNat=D.length+(delta-1) by simp;omega,Nat.pow_add]
     have:dv D*10^C.length*10^(delta-1)<5^k*10^D.length*10^(delta-1):=Nat.mul_lt_mul_of_pos_right hless (Nat.pow_pos zxd)
     exact qth
 · rw[Bool.not_eq_true] at hp
   rw[hp]
   have hless:¬ dv D*10^C.length<dv C*10^D.length:=fun h=>by rw[hi.2 h] at hp;cases hp
   refine⟨?_,?_,by simp,by simp,by simp;omega⟩
   · refine Nat.le_of_mul_le_mul_right ?_ h5
     rw[key]
     rw[hc.five] at hless
     have:5^k*10^D.length*10^(delta-1)≤dv D*10^C.length*10^(delta-1):=Nat.mul_le_mul_right _ zxo
     rw[show D.length+delta-false.toNat-1=D.length+(delta-1) by simp;omega,Nat.pow_add]
     exact qth
   · have:dv D*2^k<10^D.length*10^delta:=Nat.mul_lt_mul_of_lt_of_lt hlt hc.hi
     rw[← Nat.pow_add] at this
     simpa using this
theorem qrd {W:List Nat} {P m T w:Nat} (hm:W.length=m) (hW:Digs W) (h:dv W=P) (hw:w+m=T) (hP:10^(T-1)≤P) (hT:0<T):w=0:=by
 have:=Jz hW
 rw[hm,h] at this
 have h2:=(Nat.pow_lt_pow_iff_right (show 1<10 by decide)).1 (Nat.lt_of_le_of_lt hP this)
 omega
theorem qpr {W:List Nat} {P m T n:Nat} (h:n*10^m+dv W=P) (hn:0<n) (hP:P<10^T):m<T:=by
 have h1:1*10^m≤n*10^m:=Nat.mul_le_mul_right _ hn
 exact(Nat.pow_lt_pow_iff_right (show 1<10 by decide)).1 zxo
theorem qpu {W:List Nat} {T:Nat} (hl:W.length=T) (hT:0<T) (hW:Digs W) (h:10^(T-1)≤dv W):Lead W:=by
 cases W with
 | nil=>subst hl;exact absurd hT zxs
 | cons d W =>
  intro e
  have e:d=0:=e
  rw[j9,e] at h
  have:=Jz (l:=W) fun x hx=>hW x (List.mem_cons_of_mem _ hx)
  rw[← hl,List.length_cons,Nat.add_sub_cancel] at h
  omega
def Val (N:Nat) (z:Int) (p q:Nat):Prop:=N*10^z.toNat*q=p*10^(-z).toNat
theorem j7 {N:Nat} {z:Int} {p q:Nat} (a b:Nat) (h:z=(a:Int)-b):Val N z p q↔N*10^a*q=p*10^b:=by
 obtain⟨c,ha,hb⟩:∃ c,a=z.toNat+c∧b=(-z).toNat+c:=⟨min a b,by omega,by omega⟩
 unfold Val
 rw[ha,hb,Nat.pow_add,Nat.pow_add]
 have hc:0<10^c:=Nat.pow_pos zxd
 generalize 10^c=C at *
 generalize 10^z.toNat=X
 generalize 10^(-z).toNat=Y
 constructor
 · intro h
   have:N*X*q*C=p*Y*C:=by rw[h]
   grind
 · intro h
   apply Nat.eq_of_mul_eq_mul_right hc
   grind
theorem qjv {N:Nat} {z:Int} {p q:Nat} (c:Nat) (hc:0<c):Val N z (p*c) (q*c)↔Val N z p q:=by
 unfold Val
 generalize 10^z.toNat=X
 generalize 10^(-z).toNat=Y
 constructor
 · intro h
   apply Nat.eq_of_mul_eq_mul_right hc
   grind
 · intro h
   have:N*X*q*c=p*Y*c:=by rw[h]
   grind
theorem qc6 {N j:Nat} {z:Int} {p q:Nat}:Val (N*10^j) z p q↔Val N (z+j) p q:=by
 rw[j7 (z:=z) z.toNat (-z).toNat zxo,j7 (z:=z+j) (z.toNat+j) (-z).toNat zxo,Nat.pow_add]
 constructor<;>intro h<;>rw[← h]<;>grind
theorem qjm {N V nd R k:Nat} {dp:Int} {p q:Nat} (h:Val N (dp-nd) p q) (he:V*10*2^k=N*10^(R-nd)) (hR:nd≤R):Val V (dp+1-R) p (q*2^k):=by
 have e:dp-(nd:Int)=(dp-nd).toNat-(-(dp-nd)).toNat:=by omega
 rw[j7 _ _ e] at h
 rw[j7 ((dp-nd).toNat+1) ((-(dp-nd)).toNat+(R-nd)) zxo,Nat.pow_add,Nat.pow_add,Nat.pow_one]
 generalize 10^(dp-nd).toNat=X at *
 generalize 10^(-(dp-nd)).toNat=Y at *
 generalize 10^(R-nd)=Z at *
 generalize 2^k=K at *
 calc V*(X*10)*(q*K)=V*10*K*(X*q):=by grind
  _=N*X*q*Z:=by rw[he];grind
  _=p*(Y*Z):=by rw[h];grind
theorem qko {N k:Nat} {z:Int} {p q:Nat} (h:Val N z p q):Val (N*2^k) z (p*2^k) q:=by
 unfold Val at *
 generalize 2^k=K at *
 calc N*K*10^z.toNat*q=N*10^z.toNat*q*K:=by grind
  _=_:=by rw[h];grind
theorem qod {L N M k:Nat} {z y:Int} {p q:Nat} (hq:0<q) (hN:Val N z p q) (hM:Val M y p (q*2^k)) (hL:M<10^L):qtX L N k:=by
 unfold Val at hN hM
 refine⟨M,y.toNat+(-z).toNat,z.toNat+(-y).toNat,?_,hL⟩
 apply Nat.eq_of_mul_eq_mul_right hq
 rw[Nat.pow_add,Nat.pow_add]
 generalize 10^z.toNat=X at *
 generalize 10^(-z).toNat=Y at *
 generalize 10^y.toNat=U at *
 generalize 10^(-y).toNat=W at *
 generalize 2^k=K at *
 calc N*(X*W)*q=N*X*q*W:=by grind
  _=p*W*Y:=by rw[hN];grind
  _=M*U*(q*K)*Y:=by rw[hM]
  _=M*K*(U*Y)*q:=by grind
theorem qr3 {N M:Nat} {z y:Int} {p q:Nat} (hq:0<q) (hN:Val N z p q) (hM:Val M y p q) (h:N%10≠0):N≤M:=by
 unfold Val at hN hM
 have e:N*10^(z.toNat+(-y).toNat)=M*10^(y.toNat+(-z).toNat):=by
  apply Nat.eq_of_mul_eq_mul_right hq
  rw[Nat.pow_add,Nat.pow_add]
  generalize 10^z.toNat=X at *
  generalize 10^(-z).toNat=Y at *
  generalize 10^y.toNat=U at *
  generalize 10^(-y).toNat=W at *
  calc N*(X*W)*q=N*X*q*W:=by grind
   _=p*W*Y:=by rw[hN];grind
   _=M*U*q*Y:=by rw[hM]
   _=M*(U*Y)*q:=by grind
 generalize z.toNat+(-y).toNat=t at *
 generalize y.toNat+(-z).toNat=s at *
 rcases Nat.lt_or_ge t s with hts | hts
 · exfalso
   obtain⟨u,rfl⟩:∃ u,s=t+(u+1):=⟨s-t-1,by omega⟩
   rw[Nat.pow_add] at e
   have e2:N=M*10^(u+1):=by
    apply Nat.eq_of_mul_eq_mul_right (Nat.pow_pos (n:=t) (show 0<10 by decide))
    rw[e];grind
   rw[Nat.pow_succ,← Nat.mul_assoc] at e2
   omega
 · obtain⟨u,rfl⟩:∃ u,t=s+u:=⟨t-s,by omega⟩
   rw[Nat.pow_add] at e
   have e2:N*10^u=M:=by
    apply Nat.eq_of_mul_eq_mul_right (Nat.pow_pos (n:=s) (show 0<10 by decide))
    rw[← e];grind
   rw[← e2]
   exact Nat.le_mul_of_pos_right _ (Nat.pow_pos zxd)
theorem qjh {N nd:Nat} {dp:Int} {p q:Nat} (h:Val N (dp-nd) p q) (hN:10^(nd-1)≤N) (hn:0<nd) (a b:Nat) (hab:dp-1=(a:Int)-b):10^a*q≤p*10^b:=by
 rw[j7 (a+1) (b+nd) zxo] at h
 apply Nat.le_of_mul_le_mul_right (a:=10^a*q) (c:=10^nd) ?_ (Nat.pow_pos zxd)
 have e:p*10^b*10^nd=N*10*(10^a*q):=by rw[Nat.mul_assoc,← Nat.pow_add,← h,Nat.pow_succ];grind
 rw[e,Nat.mul_comm]
 apply Nat.mul_le_mul_right
 have:10^nd=10^(nd-1)*10:=by rw[← Nat.pow_succ];congr 1;omega
 omega
theorem qfC {N nd:Nat} {dp:Int} {p q:Nat} (h:Val N (dp-nd) p q) (hN:N<10^nd) (hq:0<q) (a b:Nat) (hab:dp=(a:Int)-b):p*10^b<10^a*q:=by
 rw[j7 a (b+nd) zxo] at h
 apply Nat.lt_of_mul_lt_mul_right (a:=10^nd)
 have e:p*10^b*10^nd=N*(10^a*q):=by rw[Nat.mul_assoc,← Nat.pow_add,← h];grind
 have:0<10^a*q:=Nat.mul_pos (Nat.pow_pos zxd) hq
 rw[e,Nat.mul_comm (10^a*q) (10^nd)]
 exact Nat.mul_lt_mul_of_pos_right hN this
theorem qdD {D:List Nat} {j:Nat}:∀ m,(∀ i,j≤i→i<j+m→D.getD i 0=0)→pre D (j+m)=pre D j*10^m
 | 0,_=>by simp
 | m+1,h=>by
  rw[← Nat.add_assoc,pre,qdD m fun i h1 h2=>h i h1 zxo,h (j+m) zxo zxo,Nat.pow_succ]
  grind
theorem qhm {D:List Nat} {j:Nat} (hj:j≤D.length) (h:∀ i,j≤i→i<D.length→D.getD i 0=0):dv D=dv (D.take j)*10^(D.length-j):=by
 have:=qdD (D:=D) (j:=j) (D.length-j) fun i h1 h2=>h i h1 zxo
 rw[show j+(D.length-j)=D.length by omega,qae zxn,List.take_length,qae hj] at this
 exact this
theorem qc3 {D:List Nat} {j:Nat} (hj:j≤D.length) (h0:0<j) (h:D.getD (j-1) 0≠0):LastNZ (D.take j):=by
 intro x hx
 rw[List.getLast?_eq_getElem?,List.length_take,Nat.min_eq_left hj,List.getElem?_take,if_pos zxo] at hx
 rw[List.getD_eq_getElem?_getD,hx] at h
 exact h
theorem qkz {D:List Nat} (h:LastNZ D) (hd:Digs D) (hn:D≠[]):dv D%10≠0:=by
 have e:=List.dropLast_concat_getLast hn
 rw[← e,qav]
 have h1:=h (D.getLast hn) (List.getLast?_eq_some_getLast hn)
 have h2:=hd _ (List.getLast_mem hn)
 omega
theorem qbi {D:List Nat} {j:Nat} (h:Lead D) (h0:0<j):Lead (D.take j):=by
 unfold Lead at *
 rw[List.getD_eq_getElem?_getD] at *
 rw[List.getElem?_take,if_pos h0]
 exact h
theorem qdK {W:List Nat} {d:Nat} (h:W≠[]→Lead W) (hd:W=[]→d≠0):Lead (W++[d]):=by
 cases W with
 | nil=>exact hd rfl
 | cons x W=>exact h zxs
def qei (N:Nat) (z:Int) (p q:Nat) (e:Int):Prop:=Val N z (p*2^(-e).toNat) (q*2^e.toNat)
theorem jG {N:Nat} {z:Int} {p q:Nat} {e:Int} (a b:Nat) (h:e=(b:Int)-a):qei N z p q e↔Val N z (p*2^a) (q*2^b):=by
 obtain⟨c,ha,hb⟩:∃ c,a=(-e).toNat+c∧b=e.toNat+c:=⟨min a b,by omega,by omega⟩
 unfold qei
 rw[ha,hb,Nat.pow_add,Nat.pow_add,← Nat.mul_assoc,← Nat.mul_assoc,qjv _ (Nat.two_pow_pos c)]
theorem qht {N:Nat} {z:Int} {p q:Nat}:qei N z p q 0↔Val N z p q:=by
 rw[jG 0 0 zxo];simp
def Halved (N:Nat) (z:Int) (N':Nat) (z':Int) (k:Nat):Prop:=∀ p q,Val N z p q→Val N' z' p (q*2^k)
def Doubled (N:Nat) (z:Int) (N':Nat) (z':Int) (k:Nat):Prop:=∀ p q,Val N z p q→Val N' z' (p*2^k) q
theorem Halved.valE {N N':Nat} {z z':Int} {k:Nat} (h:Halved N z N' z' k) {p q:Nat} {e:Int} (hv:qei N z p q e):qei N' z' p q (e+k):=by
 have:=h _ _ hv
 rw[jG (-e).toNat (e.toNat+k) zxo,Nat.pow_add,← Nat.mul_assoc]
 exact this
theorem Doubled.valE {N N':Nat} {z z':Int} {k:Nat} (h:Doubled N z N' z' k) {p q:Nat} {e:Int} (hv:qei N z p q e):qei N' z' p q (e-k):=by
 have:=h _ _ hv
 rw[jG ((-e).toNat+k) e.toNat zxo,Nat.pow_add,← Nat.mul_assoc]
 exact this
def qeP:Nat:=782
def Big (p q:Nat):Prop:=0<q∧0<p∧∀ e:Int,-1200≤e→e≤1034→∃ M y,qei M y p q e∧M<10^qeP
theorem Big.room {p q N:Nat} {z e:Int} {k:Nat} (h:Big p q) (hv:qei N z p q e) (h1 : -1200≤e+k) (h2:e+k≤1034):qtX qeP N k:=by
 obtain⟨M,y,hM,hL⟩:=h.2.2 (e+k) h1 h2
 rw[jG (-e).toNat (e.toNat+k) zxo,Nat.pow_add,← Nat.mul_assoc] at hM
 exact qod (Nat.mul_pos h.1 (Nat.two_pow_pos _)) hv hM hL
theorem Big.len {p q:Nat} {D:List Nat} {z e:Int} (h:Big p q) (hv:qei (dv D) z p q e) (h1 : -1200≤e) (h2:e≤1034) (hd:Digs D) (hl:Lead D) (hz:LastNZ D):D.length≤qeP:=by
 obtain⟨M,y,hM,hL⟩:=h.2.2 e h1 h2
 have h3:=qr3 (Nat.mul_pos h.1 (Nat.two_pow_pos _)) hv hM (qkz hz hd hl.ne)
 have h4:=(Nat.pow_lt_pow_iff_right (show 1<10 by decide)).1 (Nat.lt_of_le_of_lt (qbR hl) (Nat.lt_of_le_of_lt h3 hL))
 omega
theorem qlR:(5:Nat)^1034≤10^723:=by decide +kernel
theorem qir:(2:Nat)^1200≤10^723:=by decide +kernel
theorem qos (k:Nat) (h:k≤1034):5^k≤10^723:=Nat.le_trans (Nat.pow_le_pow_right zxd h) qlR
theorem qr8 (k:Nat) (h:k≤1200):2^k≤10^723:=Nat.le_trans (Nat.pow_le_pow_right zxd h) qir
theorem qmz {A B x y z:Nat} (hA:A<10^x) (hB:B≤10^y) (hz:x+y=z):A*B<10^z:=by
 rw[← hz,Nat.pow_add]
 exact Nat.lt_of_le_of_lt (Nat.mul_le_mul_left _ hB) (Nat.mul_lt_mul_of_pos_right hA (Nat.pow_pos zxd))
theorem qpT (A a b:Nat) (hA:A<10^59) (h0:0<A):Big (A*10^a) (10^b):=by
 refine⟨Nat.pow_pos zxd,Nat.mul_pos h0 (Nat.pow_pos zxd),fun e h1 h2=>?_⟩
 by_cases he:0≤e
 · obtain⟨k,rfl⟩:∃ k:Nat,e=k:=⟨e.toNat,by omega⟩
   refine⟨A*5^k,(a:Int)-b-k,?_,?_⟩
   · rw[jG 0 k zxo,j7 a (b+k) zxo,Nat.pow_add,show(10:Nat)^k=5^k*2^k by rw[← Nat.mul_pow]]
     grind
   · exact qmz hA (qos k zxo) rfl
 · obtain⟨k,rfl⟩:∃ k:Nat,e = -(k:Int):=⟨(-e).toNat,by omega⟩
   refine⟨A*2^k,(a:Int)-b,?_,?_⟩
   · rw[jG k 0 zxo,j7 a b zxo]
     grind
   · exact qmz hA (qr8 k zxo) rfl
def qb3 (c:List Nat) (nd dp:Int) (ng tr:Bool):Array Value:=((c.map fun(x:Nat)=>Value.int .u8 (x:Int))++[Value.int .i64 nd,Value.int .i64 dp,Value.bool ng,Value.bool tr]).toArray
structure Dcm (w:World) (b:Nat) (c:List Nat) (nd dp:Int) (ng tr:Bool):Prop where
 heap:w.heap[b]?=some (.cells (qb3 c nd dp ng tr) 239 (0,0))
 len:c.length=800
theorem qbd {w:World} {g o:Nat} {c:Array Value} {e:TypeId} {fz:Nat×Nat} {v:Value} (h:w.heap[g]?=some (.cells c e fz)):(w.setCell ⟨g,o,none⟩ v).heap[g]?=some (.cells (c.setIfInBounds o v) e fz):=by
 simp only[World.setCell,Array.getElem?_modify]
 simp[h]
section
variable {w:World} {b:Nat} {c:List Nat} {nd dp:Int} {ng tr:Bool}
theorem Dcm.lt (h:Dcm w b c nd dp ng tr):b<w.heap.size:=(Array.getElem?_eq_some_iff.1 h.heap).1
theorem Dcm.at_ (h:Dcm w b c nd dp ng tr) {i x:Nat} (hx:c[i]?=some x):w.cell? ⟨b,i,none⟩=some (.int .u8 (x:Int)):=by
 have hi:i<c.length:=(List.getElem?_eq_some_iff.1 hx).1
 rw[cell_of_row _ _ _ _ _ _ h.heap]
 have e:c[i]=x:=by rw[List.getElem?_eq_getElem hi] at hx;exact Option.some.inj hx
 simp[qb3,List.getElem?_append_left,hi,e]
theorem Dcm.nd_ (h:Dcm w b c nd dp ng tr):w.cell? ⟨b,800,none⟩=some (.int .i64 nd):=by
 exact ql0
theorem Dcm.dp_ (h:Dcm w b c nd dp ng tr):w.cell? ⟨b,801,none⟩=some (.int .i64 dp):=by
 exact ql0
theorem Dcm.ng_ (h:Dcm w b c nd dp ng tr):w.cell? ⟨b,802,none⟩=some (.bool ng):=by
 exact ql0
theorem Dcm.tr_ (h:Dcm w b c nd dp ng tr):w.cell? ⟨b,803,none⟩=some (.bool tr):=by
 exact ql0
theorem Dcm.thaw (h:Dcm w b c nd dp ng tr) (k:Nat):w.frozen? ⟨b,k,none⟩=false:=by
 have:=h.heap
 unfold World.frozen?
 simp only[this]
 simp
theorem Dcm.drewN (h:Dcm w b c nd dp ng tr) (k:Nat):Dcm (w.drewN k) b c nd dp ng tr:=⟨h.heap,h.len⟩
theorem Dcm.drew (h:Dcm w b c nd dp ng tr):Dcm w.drew b c nd dp ng tr:=⟨h.heap,h.len⟩
theorem Dcm.set (h:Dcm w b c nd dp ng tr) (i x:Nat) (hi:i<800):Dcm (w.setCell ⟨b,i,none⟩ (.int .u8 (x:Int))) b (c.set i x) nd dp ng tr:=by
 refine⟨?_,by rw[List.length_set];exact h.len⟩
 rw[qbd h.heap]
 have hi2:i<c.length:=by rw[h.len];exact hi
 simp[qb3,List.map_set,List.set_append_left,hi2]
theorem Dcm.setNd (h:Dcm w b c nd dp ng tr) (n:Int):Dcm (w.setCell ⟨b,800,none⟩ (.int .i64 n)) b c n dp ng tr:=by
 exact qkq
theorem Dcm.setDp (h:Dcm w b c nd dp ng tr) (n:Int):Dcm (w.setCell ⟨b,801,none⟩ (.int .i64 n)) b c nd n ng tr:=by
 exact qkq
theorem Dcm.setNg (h:Dcm w b c nd dp ng tr) (n:Bool):Dcm (w.setCell ⟨b,802,none⟩ (.bool n)) b c nd dp n tr:=by
 exact qkq
theorem Dcm.setTr (h:Dcm w b c nd dp ng tr) (n:Bool):Dcm (w.setCell ⟨b,803,none⟩ (.bool n)) b c nd dp ng n:=by
 exact qkq
end
def Has (c:List Nat) (i:Nat) (l:List Nat):Prop:=∀ j x,l[j]?=some x→c[i+j]?=some (48+x)
theorem Has.nil {c:List Nat} {i:Nat}:Has c i []:=fun j x h=>by cases h
theorem Has.take {c:List Nat} {i:Nat} {l:List Nat} (h:Has c i l) (n:Nat):Has c i (l.take n):=fun j x hx=>by
 rw[List.getElem?_take] at hx
 split at hx
 · exact h j x hx
 · cases hx
theorem Has.drop {c:List Nat} {i:Nat} {l:List Nat} (h:Has c i l) (n:Nat):Has c (i+n) (l.drop n):=fun j x hx=>by
 rw[List.getElem?_drop] at hx
 rw[Nat.add_assoc]
 exact h _ x hx
theorem Has.set_off {c:List Nat} {i k y:Nat} {l:List Nat} (h:Has c i l) (hk:k<i∨i+l.length≤k):Has (c.set k y) i l:=fun j x hx=>by
 have:j<l.length:=(List.getElem?_eq_some_iff.1 hx).1
 rw[List.getElem?_set_ne zxo]
 exact h j x hx
theorem Has.snoc {c:List Nat} {i k:Nat} {l:List Nat} {d:Nat} (h:Has c i l) (hk:k=i+l.length) (hlt:k<c.length):Has (c.set k (48+d)) i (l++[d]):=fun j x hx=>by
 subst hk
 rcases Nat.lt_or_ge j l.length with hj | hj
 · rw[List.getElem?_append_left hj] at hx
   rw[List.getElem?_set_ne zxo]
   exact h j x hx
 · rw[List.getElem?_append_right hj] at hx
   have hj2:j-l.length=0:=by
    rcases Nat.eq_zero_or_pos (j-l.length) with h0 | h0
    · exact h0
    · rw[List.getElem?_eq_none (by simp;omega)] at hx;cases hx
   rw[hj2] at hx
   cases hx
   rw[show i+j=i+l.length by omega,List.getElem?_set_self hlt]
theorem Has.cons {c:List Nat} {i:Nat} {l:List Nat} {d:Nat} (h:Has c (i+1) l) (hlt:i<c.length):Has (c.set i (48+d)) i (d::l):=fun j x hx=>by
 cases j with
 | zero =>
  cases hx
  rw[Nat.add_zero,List.getElem?_set_self hlt]
 | succ j =>
  rw[List.getElem?_set_ne zxo,show i+(j+1)=i+1+j by omega]
  exact h j x hx
theorem Has.getD {c:List Nat} {D:List Nat} (h:Has c 0 D) {i:Nat} (hi:i<D.length):c[i]?=some (48+D.getD i 0):=by
 have:=h i (D.getD i 0) (by rw[List.getD_eq_getElem?_getD,List.getElem?_eq_getElem hi];rfl)
 rwa [Nat.zero_add] at this
theorem Has.getD_drop {c:List Nat} {D:List Nat} {r:Nat} (h:Has c r (D.drop r)) (hi:r<D.length):c[r]?=some (48+D.getD r 0):=by
 have:=h 0 (D.getD r 0) (by rw[List.getElem?_drop,Nat.add_zero,List.getD_eq_getElem?_getD,List.getElem?_eq_getElem hi];rfl)
 exact this
def qwe (b:Nat) (w:World):Nat:=match w.cell? ⟨b,800,none⟩ with | some v=>(intOf v).toNat | none=>0
theorem qhX {w:World} {b:Nat} {c:List Nat} {nd dp:Int} {ng tr:Bool} (h:Dcm w b c nd dp ng tr):qwe b w=nd.toNat:=by unfold qwe;rw[h.nd_];rfl
def qlE (w:World) (b:Nat) (c:List Nat) (dp:Int) (ng tr:Bool) (D:List Nat) (w':World):Prop :=
 ∃ j:Nat,0<j∧j≤D.length∧(∀ i,j≤i→i<D.length→D.getD i 0=0)∧D.getD (j-1) 0≠0∧Dcm w' b c (j:Int) dp ng tr∧Below b w w'
theorem qv {B:Nat} {a w:World} (h:Below B a w) (n:Nat):Below B a (w.drewN n):=⟨h.os,h.tape,h.output,h.size,h.block⟩
theorem qft (b:Nat) (c:List Nat) (dp:Int) (ng tr:Bool) (D:List Nat) (w:World) (h:Dcm w b c (D.length:Int) dp ng tr) (hl:Lead D) (hd:Digs D) (hle:D.length≤800) (hc:Has c 0 D) :
  Calls Tryz.prog 251 #[.pointer (some ⟨b,0,none⟩)] w fun e w'=>e = .returned (.tuple #[])∧qlE w b c dp ng tr D w':=by
 have hpos:0<D.length:=List.length_pos_iff.2 hl.ne
 have HC:=zxi hc
 have HL:=zxi hl
 have HD:=zxi hd
 have H:=zxi h
 clear hc h hl hd
 go_enter Tryz.func251,Tryz.ntmps251
 go_wp2_with fail
 go_loopw [] (fun wr=>∃ j:Nat,0<j∧j≤D.length∧(∀ i,j≤i→i<D.length→D.getD i 0=0)∧Dcm wr b c (j:Int) dp ng tr∧Below b w wr) (fun wr=>qwe b wr)
 case atStart=>exact⟨D.length,hpos,Nat.le_refl _,fun i h1 h2=>by omega,H.out,Below.refl _ _⟩
 case round =>
  obtain⟨j,hj0,hj,hz,hm,hb⟩:=hrel
  have HZ:=zxi hz
  have HM:=zxi hm
  have HB:=zxi hb
  have c1:=hm.nd_
  have f1:=hm.thaw 800
  obtain⟨m,hm1⟩:∃ m,j=m+1:=⟨j-1,by omega⟩
  have e1:IntKind.i64.wrap ((j:Int)-1)=(m:Int):=by rw[hm1];simp only[IntKind.wrap,IntKind.bits,IntKind.signed];simp;omega
  have c2:=hm.at_ (HC.out.getD (show m<D.length by omega))
  have g1:(0:Int)<(j:Int):=by omega
  have g2:(j:Int)≤800:=by omega
  have hx9:=HD.out.getD m
  by_cases hx0:D.getD m 0=0
  · rw[hx0] at c2
    have c3:wr.cell? ⟨b,m,none⟩=some (.int .u8 48):=c2
    have h0:m≠0:=fun e=>HL.out (by rw[e] at hx0;exact hx0)
    have HX:=zxi hx0
    clear hz hm hb c2 hx0 hx9
    have g3:(0:Int)≤(m:Int):=by omega
    have g4:(m:Int)<800:=by omega
    have HM1:=zxi hm1
    clear hm1
    go_wp2_with fail
    go_quiet (fail)
    go_wp2_with fail
    have hs:=((HM.out.drewN nq).setNd (m:Int))
    have hm1:=HM1.out
    refine⟨⟨m,by omega,by omega,fun i h1 h2=>?_,hs,(qv HB.out nq).setCell (p:=⟨b,800,none⟩) zxn _⟩,?_⟩
    · rcases Nat.lt_or_ge m i with h3 | h3
      · exact HZ.out i zxo h2
      · obtain rfl:i=m:=by omega
        exact HX.out
    · rw[qhX hs,qhX HM.out];omega
  · obtain⟨y,hy⟩:∃ y,48+D.getD m 0=y:=⟨_,rfl⟩
    rw[hy] at c2
    have k1:((y:Int) == 48)=false:=by simp;omega
    have HX:=zxi hx0
    have HY:=zxi hy
    clear hz hm hb hx0 hx9 hy
    have g3:(0:Int)≤(m:Int):=by omega
    have g4:(m:Int)<800:=by omega
    have k2:((j:Int) == 0)=false:=by simp;omega
    have HM1:=zxi hm1
    clear hm1
    go_wp2_with fail
    go_quiet (fail)
    go_wp2_with fail
    go_end0
    have hm1:=HM1.out
    exact⟨rfl,j,hj0,hj,HZ.out,by rw[show j-1=m by omega];exact HX.out,HM.out.drewN nq,qv HB.out nq⟩
end Go.Proofs.YtacdfjlncfidgaaGreatDoor
