/- A part of what the claim leans on. -/
import Derived.Test.YtacdfjlncfidgaaGreatDoorQS
import Derived.Test.YtacdfjlncfidgaaGreatDoorQX
import Derived.Test.YtacdfjlncfidgaaGreatDoorQYa
import Derived.Test.YtacdfjlncfidgaaGreatDoorQYb
import Derived.Test.YtacdfjlncfidgaaGreatDoorQYc
import Derived.Test.YtacdfjlncfidgaaGreatDoorQYd
import Derived.Test.YtacdfjlncfidgaaGreatDoorQR
import Derived.Test.YtacdfjlncfidgaaGreatDoorQZ
namespace Go.Proofs.YtacdfjlncfidgaaGreatDoor
open Go.RowKit
set_option linter.unusedVariables false
set_option linter.unusedSimpArgs false
set_option maxRecDepth 100000
set_option maxHeartbeats 6400000
def qbD (t:List UInt8) (q:Nat):Int:=if t[0]?=some 45 then -((qM 0 (t.drop q):Nat):Int) else ((qM 0 (t.drop q):Nat):Int)
theorem qb7 {t:List UInt8} {q:Nat} (h:qg3 t q) : -1000<qbD t q∧qbD t q<1000:=by
 have h1:=qfy (t.drop q) h.2.2 (by rw[List.length_drop];have:=h.2.1;omega)
 unfold qbD
 split<;>omega
theorem qi6 (s:ByteArray) (x u r:List UInt8) (K:Nat) (xe:Int) (hK:K=1074) (hs:s.size≤60) (h:Head s.data.toList x (u++r)) (hu0:u≠[]) (hu:∀ c∈u,qf c=true) (hx : -1000<xe) (hx2:xe<1000)
  (hread:∀ P,P=x.length+1+u.length→Scan s.data.toList P→∀ w,Calls Tryz.prog 213 #[.string s] w fun e w'=>e = .returned (.tuple #[.int .u64 (je s.data.toList P).mant,.int .i64 (JE (je s.data.toList P) xe),.bool false,.bool (je s.data.toList P).trunc,.bool false,.int .i64 s.size,.bool true])∧w=w')
  (hset:∀ P,P=x.length+1+u.length→Scan s.data.toList P→∀ (b:Nat) (c:List Nat) (w:World),Dcm w b c 0 0 false false→Calls Tryz.prog 219 #[.pointer (some ⟨b,0,none⟩),.string s] w fun e w'=>e = .returned (.bool true)∧JM w b (jZ s.data.toList P) xe w') :
  AT3 s (jW (qM 0 (x++u)) (xe-u.length) K) (jW (qM 0 (x++u)) (xe-u.length) K == 9218868437227405312):=by
 have hL:=h.1
 have hn:=QK h.2
 have hsc:Scan s.data.toList (x.length+1+u.length):=by
  have hl:s.data.toList.length≤60:=hs
  rw[hL] at hl ⊢
  exact qkV x u r h.2 hu hu0 hl
 have hpos:0<s.size:=by have:3≤s.size:=hsc.size;omega
 have hDg:Dg s:=by
  refine⟨hpos,hs,?_⟩
  obtain⟨c,hc,hd⟩:=hsc.first
  have h2:s.data.toList[0]?=some (s[0]'hpos):=by rw[List.getElem?_eq_getElem (by exact hpos)];rfl
  rw[hc] at h2
  rw[← Option.some.inj h2]
  exact hd
 have h3:=qst s _ K xe hK hsc hDg hx hx2 (hread _ rfl hsc) (hset _ rfl hsc)
 have hv:=qpN x u r hn.2.1 hu
 rw[← hL] at hv
 rw[hv.1] at h3
 have e:(jZ s.data.toList (x.length+1+u.length)).dp+xe-((jZ s.data.toList (x.length+1+u.length)).D.length:Int)=xe-(u.length:Int):=by have:=hv.2;omega
 rw[e] at h3
 exact h3
theorem qqJ (s:ByteArray) (x u:List UInt8) (K:Nat) (hK:K=1074) (hs:s.size≤60) (h:Head s.data.toList x (u++[])) (hu0:u≠[]) (hu:∀ c∈u,qf c=true) :
  AT3 s (jW (qM 0 (x++u)) (0-u.length) K) (jW (qM 0 (x++u)) (0-u.length) K == 9218868437227405312):=by
 have hsz:s.size=x.length+1+u.length:=by show s.data.toList.length=_;rw[h.1];simp;omega
 refine qi6 s x u [] K 0 hK hs h hu0 hu zxd zxd (fun P hP hsc w=>?_) (fun P hP hsc b c w hm=>?_)
 · by_cases hz:s.data.toList[0]?=some 48
   · exact qpq s P w hsc hz zxo
   · exact qnn s P w hsc hz zxo
 · exact quU s P b c false false w hsc zxo hm
theorem Qt {L:List UInt8} {Q:Nat} {v:List UInt8} (hv:L.drop Q=v) (h:∀ c∈v,qf c=true):∀ k c,Q≤k→L[k]?=some c→qf c=true:=fun k c hk hc=>by
 refine h c ?_
 have h2:(L.drop Q)[k-Q]?=some c:=by rw[List.getElem?_drop,show Q+(k-Q)=k by omega];exact hc
 rw[hv] at h2
 exact List.mem_of_getElem? h2
theorem qtL (s:ByteArray) (x u t:List UInt8) (q K:Nat) (hK:K=1074) (hs:s.size≤60) (h:Head s.data.toList x (u++101::t)) (hu0:u≠[]) (hu:∀ c∈u,qf c=true) (hq:qlZ t q) (ho:qg3 t q) :
  AT3 s (jW (qM 0 (x++u)) (qbD t q-u.length) K) (jW (qM 0 (x++u)) (qbD t q-u.length) K == 9218868437227405312):=by
 have hsz:s.size=x.length+1+u.length+1+t.length:=by show s.data.toList.length=_;rw[h.1];simp;omega
 obtain⟨o1,o2,o3⟩:=ho
 have hr:=qb7 (t:=t) (q:=q) ⟨o1,o2,o3⟩
 have eL:s.data.toList=(x++46::u)++101::t:=by rw[h.1];simp
 have hl:(x++46::u).length=x.length+1+u.length:=by simp;omega
 have g0:∀ P,P=x.length+1+u.length→s.data.toList[P]?=some 101:=fun P hP=>by
  rw[eL,List.getElem?_append_right zxo,hl,hP,Nat.sub_self];rfl
 have g1:∀ P,P=x.length+1+u.length→s.data.toList[P+1]?=t[0]?:=fun P hP=>by
  rw[eL,List.getElem?_append_right zxo,hl,hP,show x.length+1+u.length+1-(x.length+1+u.length)=0+1 by omega,List.getElem?_cons_succ]
 have gd:∀ P j,P=x.length+1+u.length→s.data.toList.drop (P+1+j)=t.drop j:=fun P j hP=>by
  rw[eL,List.drop_append,List.drop_eq_nil_of_le zxo,hl,hP,show x.length+1+u.length+1+j-(x.length+1+u.length)=j+1 by omega];rfl
 refine qi6 s x u (101::t) K (qbD t q) hK hs h hu0 hu hr.1 hr.2 (fun P hP hsc w=>?_) (fun P hP hsc b c w hm=>?_)
 · rcases hq with⟨rfl,k1,k2⟩ | ⟨rfl,k1⟩ | ⟨rfl,k1⟩
   · have e:qbD t 0=((qM 0 (s.data.toList.drop (P+1)):Nat):Int):=by unfold qbD;rw[if_neg k2,show P+1=P+1+0 from rfl,gd P 0 hP]
     rw[e]
     have hds:=Qt (gd P 0 hP) o3
     by_cases hz:s.data.toList[0]?=some 48
     · exact qm8 s P w hsc hz zxo zxo (g0 P hP) hds
     · exact qop s P w hsc hz zxo zxo (g0 P hP) hds
   · have e:qbD t 1=((qM 0 (s.data.toList.drop (P+2)):Nat):Int):=by unfold qbD;rw[if_neg (by rw[k1];decide),show P+2=P+1+1 from rfl,gd P 1 hP]
     rw[e]
     have hds:=Qt (gd P 1 hP) o3
     by_cases hz:s.data.toList[0]?=some 48
     · exact qnk s P w hsc hz zxo zxo (g0 P hP) ((g1 P hP).trans k1) hds
     · exact qmP s P w hsc hz zxo zxo (g0 P hP) ((g1 P hP).trans k1) hds
   · have e:qbD t 1 = -((qM 0 (s.data.toList.drop (P+2)):Nat):Int):=by unfold qbD;rw[if_pos k1,show P+2=P+1+1 from rfl,gd P 1 hP]
     rw[e]
     have hds:=Qt (gd P 1 hP) o3
     by_cases hz:s.data.toList[0]?=some 48
     · exact qof s P w hsc hz zxo zxo (g0 P hP) ((g1 P hP).trans k1) hds
     · exact qnh s P w hsc hz zxo zxo (g0 P hP) ((g1 P hP).trans k1) hds
 · rcases hq with⟨rfl,k1,k2⟩ | ⟨rfl,k1⟩ | ⟨rfl,k1⟩
   · have e:qbD t 0=((qM 0 (s.data.toList.drop (P+1)):Nat):Int):=by unfold qbD;rw[if_neg k2,show P+1=P+1+0 from rfl,gd P 0 hP]
     rw[e]
     exact qv0 s P b c false false w hsc zxo zxo (g0 P hP) (Qt (gd P 0 hP) o3) hm
   · have e:qbD t 1=((qM 0 (s.data.toList.drop (P+2)):Nat):Int):=by unfold qbD;rw[if_neg (by rw[k1];decide),show P+2=P+1+1 from rfl,gd P 1 hP]
     rw[e]
     exact qvm s P b c false false w hsc zxo zxo (g0 P hP) ((g1 P hP).trans k1) (Qt (gd P 1 hP) o3) hm
   · have e:qbD t 1 = -((qM 0 (s.data.toList.drop (P+2)):Nat):Int):=by unfold qbD;rw[if_pos k1,show P+2=P+1+1 from rfl,gd P 1 hP]
     rw[e]
     exact qvB s P b c false false w hsc zxo zxo (g0 P hP) ((g1 P hP).trans k1) (Qt (gd P 1 hP) o3) hm
theorem JP (s:ByteArray) (hs:s.size≤60) (w:World) (hf:Calls Tryz.prog 184 #[.string s] w fun e w'=>e = .returned (.bool false)∧Below w.heap.size w w') :
  Calls Tryz.prog 173 #[.string s] w fun e w'=>e = .returned (.tuple #[.float .f64 0,.int .i64 4])∧Below w.heap.size w w':=by
 have HF:=zxi hf
 have hs2:¬ (60:Int)<(s.size:Int):=by omega
 clear hf
 go_enter Tryz.func173,Tryz.ntmps173
 go_wp2_with (first | (go_at_call 184;refine HF.out.mono ?_;rintro e w1 ⟨rfl,hb1⟩))
 go_ret2
 exact⟨rfl,hb1⟩
theorem qcp (s:ByteArray) (hs:60<s.size) (hs3:s.size≤1000000) (w:World) :
  Calls Tryz.prog 173 #[.string s] w fun e w'=>e = .returned (.tuple #[.float .f64 0,.int .i64 3])∧Below w.heap.size w w':=by
 have hs2:(60:Int)<(s.size:Int):=by omega
 go_enter Tryz.func173,Tryz.ntmps173
 exact qgC
theorem qvi:(10:Nat)^59<65536^13:=by decide
theorem qhR (l:List UInt8) (i:Nat) (hl:l.length≤59) (hd:∀ c∈l,qf c=true):(qC (qM 0 (l.take i))).length≤13:=by
 refine jn 13 _ (Nat.lt_of_lt_of_le ?_ (Nat.le_of_lt qvi))
 have h:=qiR (l.take i) 0 (fun c hc=>hd c (List.mem_of_mem_take hc))
 rw[Nat.zero_add,Nat.one_mul] at h
 refine Nat.lt_of_lt_of_le h (Nat.pow_le_pow_right zxd ?_)
 rw[List.length_take]
 omega
theorem Qg {w w':World} {A:Option Addr} {l:List Nat} (hb:Below w.heap.size w w') (h:RowOf uc 1 w w.heap.size A l):RowOf uc 1 w' w'.heap.size A l:=h.after zxn hb
def SMx (x:Int) (k:Nat):Prop:=x=(k:Int)∧k≤10
theorem qmx (x:Int) (k:Nat) (h:SMx x k) (W:World):Calls Tryz.prog 147 #[.int .u64 x] W fun e w'=>QH k e w'∧Below W.heap.size W w':=by
 obtain⟨rfl,h2⟩:=h
 exact qcg k zxo W
theorem qcW {w w':World} (h:Below w.drew.heap.size w.drew w'):Below w.heap.size w w':=⟨h.os,h.tape,h.output,h.size,h.block⟩
theorem qcD {n:Nat} (h:n≠0):¬ ((qC n).length:Int)=0:=by rw[jS h];simp;omega
theorem qiP (V d:Nat) (z:Int) (K:Nat) (hK:K=1074) (hz:z=(d:Int)):Ieee.double.word false (rd (V*10^d*2^jI) 1)=jW V z K:=by
 rw[J3,qeB V z K d 0 zxo,show jI=K by rw[hK];exact Q9,Nat.pow_zero]
theorem qbU (V d:Nat) (z:Int) (K:Nat) (hK:K=1074) (hz:z = -(d:Int)):Ieee.double.word false (rd (V*2^jI) (10^d))=jW V z K:=by
 rw[J3,qeB V z K 0 d zxo,show jI=K by rw[hK];exact Q9,Nat.pow_zero,Nat.mul_one]
theorem qhp (z:Int) (K:Nat):jW 0 z K=0:=by unfold jW;rw[Nat.zero_mul,Nat.zero_mul,qej]
theorem qoM (s ALL S1 S2 R:ByteArray) (a b k1 k2 V K:Nat) (xe:Int) (w:World) (hK:K=1074) (hs:s.size≤60) (c0 c1:UInt8)
  (hr0:digN s.data.toList=a) (ha0:a≠0) (hc0:s.data.toList[0]?=some c0) (hz:a=1∨c0≠48) (ha1:a<s.size) (hc1:s.data.toList[a]?=some c1) (h46:c1=46)
  (hk1:k1=a+1) (hr1:digN (s.data.toList.drop k1)=b) (hb0:b≠0) (hk2:k2=k1+b) (hk2s:k2≤s.size) (hR:s.extract k2 s.size=R) (hR0:R=ByteArray.empty) (hxe:xe=0)
  (hS1:s.extract 0 a=S1) (hS2:s.extract k1 k2=S2) (hALL:S1++S2=ALL) (hAs:ALL.size≤59) (hdig:∀ c∈ALL.data.toList,qf c=true) (hV:qM 0 ALL.data.toList=V) (hx0 : -1000<xe) (hx1:xe<1000) :
  Calls Tryz.prog 130 #[.string s] w fun e w'=>e = .returned (if jW V (xe-b) K=9218868437227405312 then .tuple #[.int .u64 0,.int .i64 3] else .tuple #[.int .u64 (jW V (xe-b) K:Nat),.int .i64 0])∧Below w.heap.size w w':=by
 have HRUN0:=zxi (qV s 0 w zxo zxo)
 rw[List.drop_zero,hr0] at HRUN0
 have HRUN1:=zxi (qV s k1 w zxo zxo)
 rw[hr1] at HRUN1
 obtain⟨RES,hRES⟩:∃ RES,(if jW V (xe-b) K=9218868437227405312 then Value.tuple #[.int .u64 0,.int .i64 3] else .tuple #[.int .u64 (jW V (xe-b) K:Nat),.int .i64 0])=RES:=⟨_,rfl⟩
 rw[hRES]
 have HRES:=zxi hRES
 have HK:=zxi hK
 have HV:=zxi hV
 have HDIG:=zxi hdig
 have HB0:=zxi (show b≤60 by omega)
 have hsz:ALL.data.toList.length=ALL.size:=rfl
 have HGET:=zxi (fun k (hk:k<ALL.size)=>by rw[List.getElem?_eq_getElem (by rw[hsz];exact hk)];rfl:∀ k (hk:k<ALL.size),ALL.data.toList[k]?=some ALL[k])
 have HLEN:=zxi (fun i=>qhR ALL.data.toList i (by rw[hsz];exact hAs) hdig)
 have HO1:=zxi (fun W=>qjb W)
 have h10:SMx 10 10:=⟨rfl,Nat.le_refl _⟩
 have HOS:=zxi qmx
 have hs0:0<s.size:=by omega
 have hg0:s[0]'hs0=c0:=by
  exact qha
 have hga:s[a]'ha1=c1:=by
  exact qeZ
 have p1:¬ (60:Int)<(s.size:Int):=by omega
 have p2:¬ (a:Int)=0:=by omega
 have p3:((a:Int) == 0)=false:=by simpa using p2
 have p4:¬ (a:Int)=(s.size:Int):=by omega
 have p5:((a:Int) == (s.size:Int))=false:=by simpa using p4
 have p6:(c1.toNat:Int)=46:=by rw[h46];rfl
 have p7:((c1.toNat:Int) != 46)=false:=by rw[p6];rfl
 have p8:(a:Int)<(s.size:Int):=by omega
 have p9:(0:Int)<(s.size:Int):=by omega
 have p10:(a:Int)+1=(k1:Int):=by omega
 have p11:(k1:Int)+(b:Int)=(k2:Int):=by omega
 have p12:(k2:Int)≤(s.size:Int):=by omega
 have p13:¬ (b:Int)=0:=by omega
 have p14:((b:Int) == 0)=false:=by simpa using p13
 have p15:(k1:Int)≤(k2:Int):=by omega
 have p16:(0:Int)≤(k1:Int):=by omega
 have p17:(0:Int)≤(a:Int):=by omega
 have p18:(a:Int)≤(s.size:Int):=by omega
 have p19:IntKind.i64.wrap (k1:Int)=(k1:Int):=by simp[IntKind.wrap,IntKind.bits,IntKind.signed];omega
 have p20:IntKind.i64.wrap (k2:Int)=(k2:Int):=by simp[IntKind.wrap,IntKind.bits,IntKind.signed];omega
 have p21:S1.size+S2.size≤9223372036854775807:=by
  exact qt8
 have main:(¬ (1:Int)<(a:Int))∨((1:Int)<(a:Int)∧¬ (c0.toNat:Int)=48):=by
  exact qua
 subst hR0
 subst hxe
 have HKS:=zxi (And.intro hk1 (And.intro hk2 hk2s))
 clear hRES hK hV hdig hr0 hr1 hc0 hc1 h46 hz hb0 hk1 hk2 hk2s
 rcases main with m1 | ⟨m1,m2⟩
 · skip
   exact qwX
 · have m3:((c0.toNat:Int) == 48)=false:=by simpa using m2
   exact qwX
end Go.Proofs.YtacdfjlncfidgaaGreatDoor
