/- A part of what the claim leans on. -/
import Derived.Test.YtacdfjlncfidgaaGreatDoorQS
import Derived.Test.YtacdfjlncfidgaaGreatDoorQZe
namespace Go.Proofs.YtacdfjlncfidgaaGreatDoor
open Go.RowKit
set_option linter.unusedVariables false
set_option linter.unusedSimpArgs false
set_option maxRecDepth 100000
set_option maxHeartbeats 6400000
theorem qow (s ALL S1 S2 R:ByteArray) (a b k1 k2 V K:Nat) (xe:Int) (w:World) (hK:K=1074) (hs:s.size≤60) (c0 c1:UInt8)
  (hr0:digN s.data.toList=a) (ha0:a≠0) (hc0:s.data.toList[0]?=some c0) (hz:a=1∨c0≠48) (ha1:a<s.size) (hc1:s.data.toList[a]?=some c1) (h46:c1=46)
  (hk1:k1=a+1) (hr1:digN (s.data.toList.drop k1)=b) (hb0:b≠0) (hk2:k2=k1+b) (hk2s:k2≤s.size) (hR:s.extract k2 s.size=R) (hR0:0<R.size) (hR1:R[0]=101) (T:ByteArray) (hT:R.extract 1 R.size=T) (hE:∀ W,Calls Tryz.prog 144 #[.string T] W fun e w'=>e = .returned (.tuple #[.int .i64 xe,.bool true])∧W=w')
  (hS1:s.extract 0 a=S1) (hS2:s.extract k1 k2=S2) (hALL:S1++S2=ALL) (hAs:ALL.size≤59) (hdig:∀ c∈ALL.data.toList,qf c=true) (hV:qM 0 ALL.data.toList=V) (hx0 : -1000<xe) (hx1:xe<1000) :
  Calls Tryz.prog 130 #[.string s] w fun e w'=>e = .returned (if jW V (xe-b) K=9218868437227405312 then .tuple #[.int .u64 0,.int .i64 3] else .tuple #[.int .u64 (jW V (xe-b) K:Nat),.int .i64 0])∧Below w.heap.size w w':=by
 have HRUN0:=zxi (qV s 0 w zxo zxo)
 rw[List.drop_zero,hr0] at HRUN0
 have HRUN1:=zxi (qV s k1 w zxo zxo)
 rw[hr1] at HRUN1
 obtain⟨RES,hRES⟩:∃ RES,(if jW V (xe-b) K=9218868437227405312 then Value.tuple #[.int .u64 0,.int .i64 3] else .tuple #[.int .u64 (jW V (xe-b) K:Nat),.int .i64 0])=RES:=⟨_,rfl⟩
 rw[hRES]
 have HRES:=zxi hRES
 have HK:=zxi hK
 have HV:=zxi hV
 have HDIG:=zxi hdig
 have HB0:=zxi (show b≤60 by omega)
 have hsz:ALL.data.toList.length=ALL.size:=rfl
 have HGET:=zxi (fun k (hk:k<ALL.size)=>by rw[List.getElem?_eq_getElem (by rw[hsz];exact hk)];rfl:∀ k (hk:k<ALL.size),ALL.data.toList[k]?=some ALL[k])
 have HLEN:=zxi (fun i=>qhR ALL.data.toList i (by rw[hsz];exact hAs) hdig)
 have HO1:=zxi (fun W=>qjb W)
 have h10:SMx 10 10:=⟨rfl,Nat.le_refl _⟩
 have HOS:=zxi qmx
 have hs0:0<s.size:=by omega
 have hg0:s[0]'hs0=c0:=by
  exact qha
 have hga:s[a]'ha1=c1:=by
  exact qeZ
 have p1:¬ (60:Int)<(s.size:Int):=by omega
 have p2:¬ (a:Int)=0:=by omega
 have p3:((a:Int) == 0)=false:=by simpa using p2
 have p4:¬ (a:Int)=(s.size:Int):=by omega
 have p5:((a:Int) == (s.size:Int))=false:=by simpa using p4
 have p6:(c1.toNat:Int)=46:=by rw[h46];rfl
 have p7:((c1.toNat:Int) != 46)=false:=by rw[p6];rfl
 have p8:(a:Int)<(s.size:Int):=by omega
 have p9:(0:Int)<(s.size:Int):=by omega
 have p10:(a:Int)+1=(k1:Int):=by omega
 have p11:(k1:Int)+(b:Int)=(k2:Int):=by omega
 have p12:(k2:Int)≤(s.size:Int):=by omega
 have p13:¬ (b:Int)=0:=by omega
 have p14:((b:Int) == 0)=false:=by simpa using p13
 have p15:(k1:Int)≤(k2:Int):=by omega
 have p16:(0:Int)≤(k1:Int):=by omega
 have p17:(0:Int)≤(a:Int):=by omega
 have p18:(a:Int)≤(s.size:Int):=by omega
 have p19:IntKind.i64.wrap (k1:Int)=(k1:Int):=by simp[IntKind.wrap,IntKind.bits,IntKind.signed];omega
 have p20:IntKind.i64.wrap (k2:Int)=(k2:Int):=by simp[IntKind.wrap,IntKind.bits,IntKind.signed];omega
 have p21:S1.size+S2.size≤9223372036854775807:=by
  exact qt8
 have main:(¬ (1:Int)<(a:Int))∨((1:Int)<(a:Int)∧¬ (c0.toNat:Int)=48):=by
  exact qua
 have HE:=zxi hE
 have q1:¬ (R.size:Int)=0:=by omega
 have q2:((R.size:Int) == 0)=false:=by simpa using q1
 have q3:¬ R=ByteArray.empty:=fun e=>by rw[e] at hR0;exact absurd hR0 (Nat.not_lt_zero _)
 have q5:¬ R.toList=[]:=by rw[ByteArray.toList_eq];intro hc;exact q3 (QE (by show R.data.toList.length=0;rw[hc];rfl))
 have q6:(!R.toList.isEmpty)=true:=by simpa using q5
 have q7:(0:Int)<(R.size:Int):=by omega
 have q8:(1:Int)≤(R.size:Int):=by omega
 obtain⟨rc,hrc⟩:∃ rc,R[0]=rc:=⟨_,rfl⟩
 have q9:(rc.toNat:Int)=101:=by rw[← hrc,hR1];rfl
 have q10:((rc.toNat:Int) != 101)=false:=by rw[q9];rfl
 clear hE hR1
 have HKS:=zxi (And.intro hk1 (And.intro hk2 hk2s))
 clear hRES hK hV hdig hr0 hr1 hc0 hc1 h46 hz hb0 hk1 hk2 hk2s
 rcases main with m1 | ⟨m1,m2⟩
 · skip
   exact zz5
 · have m3:((c0.toNat:Int) == 48)=false:=by simpa using m2
   exact zz5
end Go.Proofs.YtacdfjlncfidgaaGreatDoor
