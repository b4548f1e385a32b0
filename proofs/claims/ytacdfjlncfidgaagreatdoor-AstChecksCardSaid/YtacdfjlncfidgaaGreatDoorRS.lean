/- A part of what the claim leans on. -/
import Derived.Test.YtacdfjlncfidgaaGreatDoorQS
import Derived.Test.YtacdfjlncfidgaaGreatDoorQZe
import Derived.Test.YtacdfjlncfidgaaGreatDoorRR
import Derived.Test.YtacdfjlncfidgaaGreatDoorQB
namespace Go.Proofs.YtacdfjlncfidgaaGreatDoor
open Go.RowKit
set_option linter.unusedVariables false
set_option linter.unusedSimpArgs false
set_option maxRecDepth 100000
set_option maxHeartbeats 1600000
theorem qgS (s:ByteArray) (hs:60<s.size) (hs2:s.size≤1000000) (w:World):Calls Tryz.prog 130 #[.string s] w fun e w'=>e = .returned (.tuple #[.int .u64 0,.int .i64 3])∧Below w.heap.size w w':=by
 have p1:(60:Int)<(s.size:Int):=by omega
 go_enter Tryz.func130,Tryz.ntmps130
 exact qgC
theorem qll (s:ByteArray) (hs:s.size≤60) (h:digN s.data.toList=0) (w:World):Calls Tryz.prog 130 #[.string s] w fun e w'=>e = .returned (.tuple #[.int .u64 0,.int .i64 4])∧Below w.heap.size w w':=by
 have HRUN0:=zxi (qV s 0 w zxo zxo)
 rw[List.drop_zero,h] at HRUN0
 have p1:¬ (60:Int)<(s.size:Int):=by omega
 clear h
 exact qj7
theorem qk6 (s:ByteArray) (a:Nat) (c0:UInt8) (w:World) (hs:s.size≤60) (hr0:digN s.data.toList=a) (ha0:a≠0) (hsz0:0<s.size) (hc0:s.data.toList[0]?=some c0) (hm1:1<a) (hm2:c0=48) :
  Calls Tryz.prog 130 #[.string s] w fun e w'=>e = .returned (.tuple #[.int .u64 0,.int .i64 4])∧Below w.heap.size w w':=by
 have HRUN0:=zxi (qV s 0 w zxo zxo)
 rw[List.drop_zero,hr0] at HRUN0
 have hs0:0<s.size:=by omega
 have hg0:s[0]'hs0=c0:=by
  exact qha
 have p1:¬ (60:Int)<(s.size:Int):=by omega
 have p2:¬ (a:Int)=0:=by omega
 have p3:((a:Int) == 0)=false:=by simpa using p2
 have p9:(0:Int)<(s.size:Int):=by omega
 have p17:(0:Int)≤(a:Int):=by omega
 have m1:(1:Int)<(a:Int):=by omega
 have m2:(c0.toNat:Int)=48:=by rw[hm2];rfl
 have m3:((c0.toNat:Int) == 48)=true:=by simpa using m2
 clear hm2 hr0 hc0
 exact qj7
theorem qgM (s:ByteArray) (a:Nat) (c0:UInt8) (w:World) (hs:s.size≤60) (hr0:digN s.data.toList=a) (ha0:a≠0) (hsz0:0<s.size) (hc0:s.data.toList[0]?=some c0) (hm1:¬ 1<a) (hm:a=s.size) :
  Calls Tryz.prog 130 #[.string s] w fun e w'=>e = .returned (.tuple #[.int .u64 0,.int .i64 4])∧Below w.heap.size w w':=by
 have HRUN0:=zxi (qV s 0 w zxo zxo)
 rw[List.drop_zero,hr0] at HRUN0
 have hs0:0<s.size:=by omega
 have hg0:s[0]'hs0=c0:=by
  exact qha
 have p1:¬ (60:Int)<(s.size:Int):=by omega
 have p2:¬ (a:Int)=0:=by omega
 have p3:((a:Int) == 0)=false:=by simpa using p2
 have p9:(0:Int)<(s.size:Int):=by omega
 have p17:(0:Int)≤(a:Int):=by omega
 have m1:¬ (1:Int)<(a:Int):=by omega
 exact qpK
theorem qgT (s:ByteArray) (a:Nat) (c0:UInt8) (w:World) (hs:s.size≤60) (hr0:digN s.data.toList=a) (ha0:a≠0) (hsz0:0<s.size) (hc0:s.data.toList[0]?=some c0) (hm1:¬ 1<a) (ha1:a<s.size) (c1:UInt8) (hc1:s.data.toList[a]?=some c1) (h46:c1≠46) :
  Calls Tryz.prog 130 #[.string s] w fun e w'=>e = .returned (.tuple #[.int .u64 0,.int .i64 4])∧Below w.heap.size w w':=by
 have HRUN0:=zxi (qV s 0 w zxo zxo)
 rw[List.drop_zero,hr0] at HRUN0
 have hs0:0<s.size:=by omega
 have hg0:s[0]'hs0=c0:=by
  exact qha
 have p1:¬ (60:Int)<(s.size:Int):=by omega
 have p2:¬ (a:Int)=0:=by omega
 have p3:((a:Int) == 0)=false:=by simpa using p2
 have p9:(0:Int)<(s.size:Int):=by omega
 have p17:(0:Int)≤(a:Int):=by omega
 have m1:¬ (1:Int)<(a:Int):=by omega
 exact qtV
theorem qb1 (s:ByteArray) (a:Nat) (c0:UInt8) (w:World) (hs:s.size≤60) (hr0:digN s.data.toList=a) (ha0:a≠0) (hsz0:0<s.size) (hc0:s.data.toList[0]?=some c0) (hm1:¬ 1<a) (ha1:a<s.size) (c1:UInt8) (hc1:s.data.toList[a]?=some c1) (h46:c1=46) (k1:Nat) (hk1:k1=a+1) (hr1:digN (s.data.toList.drop k1)=0) :
  Calls Tryz.prog 130 #[.string s] w fun e w'=>e = .returned (.tuple #[.int .u64 0,.int .i64 4])∧Below w.heap.size w w':=by
 have HRUN0:=zxi (qV s 0 w zxo zxo)
 rw[List.drop_zero,hr0] at HRUN0
 have hs0:0<s.size:=by omega
 have hg0:s[0]'hs0=c0:=by
  exact qha
 have p1:¬ (60:Int)<(s.size:Int):=by omega
 have p2:¬ (a:Int)=0:=by omega
 have p3:((a:Int) == 0)=false:=by simpa using p2
 have p9:(0:Int)<(s.size:Int):=by omega
 have p17:(0:Int)≤(a:Int):=by omega
 have m1:¬ (1:Int)<(a:Int):=by omega
 have hga:s[a]'ha1=c1:=by
  exact qeZ
 exact qsO
theorem qdT (s:ByteArray) (a:Nat) (c0:UInt8) (w:World) (hs:s.size≤60) (hr0:digN s.data.toList=a) (ha0:a≠0) (hsz0:0<s.size) (hc0:s.data.toList[0]?=some c0) (hm1:¬ 1<a) (ha1:a<s.size) (c1:UInt8) (hc1:s.data.toList[a]?=some c1) (h46:c1=46) (k1:Nat) (hk1:k1=a+1) (b:Nat) (hr1:digN (s.data.toList.drop k1)=b) (hb0:b≠0) (k2:Nat) (hk2:k2=k1+b) (hk2s:k2≤s.size) (R T:ByteArray) (hR:s.extract k2 s.size=R) (hR0:0<R.size) (hR1:R[0]≠101) (is:Bool) (nx:Int) (hT:R.extract 1 R.size=T) (hE:∀ W,Calls Tryz.prog 144 #[.string T] W fun e w'=>e = .returned (.tuple #[.int .i64 nx,.bool is])∧W=w') :
  Calls Tryz.prog 130 #[.string s] w fun e w'=>e = .returned (.tuple #[.int .u64 0,.int .i64 4])∧Below w.heap.size w w':=by
 have HRUN0:=zxi (qV s 0 w zxo zxo)
 rw[List.drop_zero,hr0] at HRUN0
 have hs0:0<s.size:=by omega
 have hg0:s[0]'hs0=c0:=by
  exact qha
 have p1:¬ (60:Int)<(s.size:Int):=by omega
 have p2:¬ (a:Int)=0:=by omega
 have p3:((a:Int) == 0)=false:=by simpa using p2
 have p9:(0:Int)<(s.size:Int):=by omega
 have p17:(0:Int)≤(a:Int):=by omega
 have m1:¬ (1:Int)<(a:Int):=by omega
 exact qwk
theorem qdW (s:ByteArray) (a:Nat) (c0:UInt8) (w:World) (hs:s.size≤60) (hr0:digN s.data.toList=a) (ha0:a≠0) (hsz0:0<s.size) (hc0:s.data.toList[0]?=some c0) (hm1:¬ 1<a) (ha1:a<s.size) (c1:UInt8) (hc1:s.data.toList[a]?=some c1) (h46:c1=46) (k1:Nat) (hk1:k1=a+1) (b:Nat) (hr1:digN (s.data.toList.drop k1)=b) (hb0:b≠0) (k2:Nat) (hk2:k2=k1+b) (hk2s:k2≤s.size) (R T:ByteArray) (hR:s.extract k2 s.size=R) (hR0:0<R.size) (hR1:R[0]=101) (nx:Int) (hT:R.extract 1 R.size=T) (hE:∀ W,Calls Tryz.prog 144 #[.string T] W fun e w'=>e = .returned (.tuple #[.int .i64 nx,.bool false])∧W=w') :
  Calls Tryz.prog 130 #[.string s] w fun e w'=>e = .returned (.tuple #[.int .u64 0,.int .i64 4])∧Below w.heap.size w w':=by
 have HRUN0:=zxi (qV s 0 w zxo zxo)
 rw[List.drop_zero,hr0] at HRUN0
 have hs0:0<s.size:=by omega
 have hg0:s[0]'hs0=c0:=by
  exact qha
 have p1:¬ (60:Int)<(s.size:Int):=by omega
 have p2:¬ (a:Int)=0:=by omega
 have p3:((a:Int) == 0)=false:=by simpa using p2
 have p9:(0:Int)<(s.size:Int):=by omega
 have p17:(0:Int)≤(a:Int):=by omega
 have m1:¬ (1:Int)<(a:Int):=by omega
 exact qwS
theorem qhc (s:ByteArray) (a:Nat) (c0:UInt8) (w:World) (hs:s.size≤60) (hr0:digN s.data.toList=a) (ha0:a≠0) (hsz0:0<s.size) (hc0:s.data.toList[0]?=some c0) (hm1:1<a) (hm2:c0≠48) (hm:a=s.size) :
  Calls Tryz.prog 130 #[.string s] w fun e w'=>e = .returned (.tuple #[.int .u64 0,.int .i64 4])∧Below w.heap.size w w':=by
 have HRUN0:=zxi (qV s 0 w zxo zxo)
 rw[List.drop_zero,hr0] at HRUN0
 have hs0:0<s.size:=by omega
 have hg0:s[0]'hs0=c0:=by
  exact qha
 have p1:¬ (60:Int)<(s.size:Int):=by omega
 have p2:¬ (a:Int)=0:=by omega
 have p3:((a:Int) == 0)=false:=by simpa using p2
 have p9:(0:Int)<(s.size:Int):=by omega
 have p17:(0:Int)≤(a:Int):=by omega
 have m1:(1:Int)<(a:Int):=by omega
 have m2:¬ (c0.toNat:Int)=48:=QW hm2
 have m3:((c0.toNat:Int) == 48)=false:=by simpa using m2
 clear hm2
 exact qpK
theorem qgh (s:ByteArray) (a:Nat) (c0:UInt8) (w:World) (hs:s.size≤60) (hr0:digN s.data.toList=a) (ha0:a≠0) (hsz0:0<s.size) (hc0:s.data.toList[0]?=some c0) (hm1:1<a) (hm2:c0≠48) (ha1:a<s.size) (c1:UInt8) (hc1:s.data.toList[a]?=some c1) (h46:c1≠46) :
  Calls Tryz.prog 130 #[.string s] w fun e w'=>e = .returned (.tuple #[.int .u64 0,.int .i64 4])∧Below w.heap.size w w':=by
 have HRUN0:=zxi (qV s 0 w zxo zxo)
 rw[List.drop_zero,hr0] at HRUN0
 have hs0:0<s.size:=by omega
 have hg0:s[0]'hs0=c0:=by
  exact qha
 have p1:¬ (60:Int)<(s.size:Int):=by omega
 have p2:¬ (a:Int)=0:=by omega
 have p3:((a:Int) == 0)=false:=by simpa using p2
 have p9:(0:Int)<(s.size:Int):=by omega
 have p17:(0:Int)≤(a:Int):=by omega
 have m1:(1:Int)<(a:Int):=by omega
 have m2:¬ (c0.toNat:Int)=48:=QW hm2
 have m3:((c0.toNat:Int) == 48)=false:=by simpa using m2
 clear hm2
 exact qtV
theorem qg5 (s:ByteArray) (a:Nat) (c0:UInt8) (w:World) (hs:s.size≤60) (hr0:digN s.data.toList=a) (ha0:a≠0) (hsz0:0<s.size) (hc0:s.data.toList[0]?=some c0) (hm1:1<a) (hm2:c0≠48) (ha1:a<s.size) (c1:UInt8) (hc1:s.data.toList[a]?=some c1) (h46:c1=46) (k1:Nat) (hk1:k1=a+1) (hr1:digN (s.data.toList.drop k1)=0) :
  Calls Tryz.prog 130 #[.string s] w fun e w'=>e = .returned (.tuple #[.int .u64 0,.int .i64 4])∧Below w.heap.size w w':=by
 have HRUN0:=zxi (qV s 0 w zxo zxo)
 rw[List.drop_zero,hr0] at HRUN0
 have hs0:0<s.size:=by omega
 have hg0:s[0]'hs0=c0:=by
  exact qha
 have p1:¬ (60:Int)<(s.size:Int):=by omega
 have p2:¬ (a:Int)=0:=by omega
 have p3:((a:Int) == 0)=false:=by simpa using p2
 have p9:(0:Int)<(s.size:Int):=by omega
 have p17:(0:Int)≤(a:Int):=by omega
 have m1:(1:Int)<(a:Int):=by omega
 have m2:¬ (c0.toNat:Int)=48:=QW hm2
 have m3:((c0.toNat:Int) == 48)=false:=by simpa using m2
 clear hm2
 have hga:s[a]'ha1=c1:=by
  exact qeZ
 exact qsO
theorem qdw (s:ByteArray) (a:Nat) (c0:UInt8) (w:World) (hs:s.size≤60) (hr0:digN s.data.toList=a) (ha0:a≠0) (hsz0:0<s.size) (hc0:s.data.toList[0]?=some c0) (hm1:1<a) (hm2:c0≠48) (ha1:a<s.size) (c1:UInt8) (hc1:s.data.toList[a]?=some c1) (h46:c1=46) (k1:Nat) (hk1:k1=a+1) (b:Nat) (hr1:digN (s.data.toList.drop k1)=b) (hb0:b≠0) (k2:Nat) (hk2:k2=k1+b) (hk2s:k2≤s.size) (R T:ByteArray) (hR:s.extract k2 s.size=R) (hR0:0<R.size) (hR1:R[0]≠101) (is:Bool) (nx:Int) (hT:R.extract 1 R.size=T) (hE:∀ W,Calls Tryz.prog 144 #[.string T] W fun e w'=>e = .returned (.tuple #[.int .i64 nx,.bool is])∧W=w') :
  Calls Tryz.prog 130 #[.string s] w fun e w'=>e = .returned (.tuple #[.int .u64 0,.int .i64 4])∧Below w.heap.size w w':=by
 have HRUN0:=zxi (qV s 0 w zxo zxo)
 rw[List.drop_zero,hr0] at HRUN0
 have hs0:0<s.size:=by omega
 have hg0:s[0]'hs0=c0:=by
  exact qha
 have p1:¬ (60:Int)<(s.size:Int):=by omega
 have p2:¬ (a:Int)=0:=by omega
 have p3:((a:Int) == 0)=false:=by simpa using p2
 have p9:(0:Int)<(s.size:Int):=by omega
 have p17:(0:Int)≤(a:Int):=by omega
 have m1:(1:Int)<(a:Int):=by omega
 have m2:¬ (c0.toNat:Int)=48:=QW hm2
 have m3:((c0.toNat:Int) == 48)=false:=by simpa using m2
 clear hm2
 exact qwk
theorem qc5 (s:ByteArray) (a:Nat) (c0:UInt8) (w:World) (hs:s.size≤60) (hr0:digN s.data.toList=a) (ha0:a≠0) (hsz0:0<s.size) (hc0:s.data.toList[0]?=some c0) (hm1:1<a) (hm2:c0≠48) (ha1:a<s.size) (c1:UInt8) (hc1:s.data.toList[a]?=some c1) (h46:c1=46) (k1:Nat) (hk1:k1=a+1) (b:Nat) (hr1:digN (s.data.toList.drop k1)=b) (hb0:b≠0) (k2:Nat) (hk2:k2=k1+b) (hk2s:k2≤s.size) (R T:ByteArray) (hR:s.extract k2 s.size=R) (hR0:0<R.size) (hR1:R[0]=101) (nx:Int) (hT:R.extract 1 R.size=T) (hE:∀ W,Calls Tryz.prog 144 #[.string T] W fun e w'=>e = .returned (.tuple #[.int .i64 nx,.bool false])∧W=w') :
  Calls Tryz.prog 130 #[.string s] w fun e w'=>e = .returned (.tuple #[.int .u64 0,.int .i64 4])∧Below w.heap.size w w':=by
 have HRUN0:=zxi (qV s 0 w zxo zxo)
 rw[List.drop_zero,hr0] at HRUN0
 have hs0:0<s.size:=by omega
 have hg0:s[0]'hs0=c0:=by
  exact qha
 have p1:¬ (60:Int)<(s.size:Int):=by omega
 have p2:¬ (a:Int)=0:=by omega
 have p3:((a:Int) == 0)=false:=by simpa using p2
 have p9:(0:Int)<(s.size:Int):=by omega
 have p17:(0:Int)≤(a:Int):=by omega
 have m1:(1:Int)<(a:Int):=by omega
 have m2:¬ (c0.toNat:Int)=48:=QW hm2
 have m3:((c0.toNat:Int) == 48)=false:=by simpa using m2
 clear hm2
 exact qwS
def quu (s:ByteArray):Prop:=∀ w,Calls Tryz.prog 130 #[.string s] w fun e w'=>e = .returned (.tuple #[.int .u64 0,.int .i64 4])∧Below w.heap.size w w'
theorem lsz (s:ByteArray):s.data.toList.length=s.size:=rfl
theorem qdj (s:ByteArray) (hs:s.size≤60) (h:¬ ∃ x y,Head s.data.toList x y):quu s:=fun w=>by
 have h1:=qf6 h
 by_cases h0:digN s.data.toList=0
 · exact qll s hs h0 w
 have hle:=qam s.data.toList
 rw[lsz] at hle h1
 have hsz0:0<s.size:=by omega
 obtain⟨c0,hc0⟩:∃ c0,s.data.toList[0]?=some c0:=⟨_,List.getElem?_eq_getElem hsz0⟩
 by_cases hm:1<digN s.data.toList
 · by_cases hz:c0=48
   · exact qk6 s _ c0 w hs rfl h0 hsz0 hc0 hm hz
   · rcases h1 with h1 | ⟨_,h1⟩ | h1 | ⟨h1,h2⟩
     · exact absurd h1 h0
     · rw[hc0] at h1
       exact absurd (Option.some.inj h1) hz
     · exact qhc s _ c0 w hs rfl h0 hsz0 hc0 hm hz h1
     · obtain⟨c1,hc1⟩:∃ c1,s.data.toList[digN s.data.toList]?=some c1:=⟨_,List.getElem?_eq_getElem h1⟩
       exact qgh s _ c0 w hs rfl h0 hsz0 hc0 hm hz h1 c1 hc1 (fun e=>h2 (by rw[hc1,e]))
 · rcases h1 with h1 | ⟨h1,_⟩ | h1 | ⟨h1,h2⟩
   · exact absurd h1 h0
   · exact absurd h1 hm
   · exact qgM s _ c0 w hs rfl h0 hsz0 hc0 hm h1
   · obtain⟨c1,hc1⟩:∃ c1,s.data.toList[digN s.data.toList]?=some c1:=⟨_,List.getElem?_eq_getElem h1⟩
     exact qgT s _ c0 w hs rfl h0 hsz0 hc0 hm h1 c1 hc1 (fun e=>h2 (by rw[hc1,e]))
structure HF (s:ByteArray) (x y:List UInt8) (c0:UInt8):Prop where
 get0:s.data.toList[0]?=some c0
 z:x.length=1∨c0≠48
 pos:x.length≠0
 lt:x.length<s.size
 dot:s.data.toList[x.length]?=some 46
 rest:s.data.toList.drop (x.length+1)=y
 size:s.size=x.length+1+y.length
 dig:digN s.data.toList=x.length
 digs:∀ c∈x,qf c=true
theorem qar {s:ByteArray} {x y:List UInt8} (h:Head s.data.toList x y):∃ c0,HF s x y c0:=by
 obtain⟨hne,hx,h1⟩:=QK h.2
 have hd:=h.digN
 have hL:=h.1
 have hp:=List.length_pos_iff.2 hne
 have hsz:s.size=x.length+1+y.length:=by rw[← lsz,hL];simp;omega
 obtain⟨c0,hc0⟩:∃ c0,x[0]?=some c0:=⟨_,List.getElem?_eq_getElem hp⟩
 refine⟨c0,?_,?_,by omega,by omega,?_,?_,hsz,hd,hx⟩
 · rw[hL,List.getElem?_append_left hp];exact hc0
 · rcases h1 with h1 | h1
   · exact .inl h1
   · exact .inr (fun e=>h1 (by rw[hc0,e]))
 · rw[hL];simp
 · rw[hL,List.drop_append,List.drop_eq_nil_of_le zxo,show x.length+1-x.length=1 by omega];rfl
theorem qdE (s:ByteArray) (hs:s.size≤60) {x y:List UInt8} (h:Head s.data.toList x y) (h0:digN y=0):quu s:=fun w=>by
 obtain⟨c0,H⟩:=qar h
 have hr1:digN (s.data.toList.drop (x.length+1))=0:=by rw[H.rest];exact h0
 rcases H.z with hz | hz
 · exact qb1 s _ c0 w hs H.dig H.pos (by have:=H.lt;omega) H.get0 zxo H.lt 46 H.dot rfl _ rfl hr1
 · by_cases hm:1<x.length
   · exact qg5 s _ c0 w hs H.dig H.pos (by have:=H.lt;omega) H.get0 hm hz H.lt 46 H.dot rfl _ rfl hr1
   · exact qb1 s _ c0 w hs H.dig H.pos (by have:=H.lt;omega) H.get0 hm H.lt 46 H.dot rfl _ rfl hr1
theorem qjX {t:List UInt8} {q:Nat} (hz:0<(mkB t).size) (hq:qlZ t q):(q=0∧(mkB t)[0]'hz≠43∧(mkB t)[0]'hz≠45)∨(q=1∧(mkB t)[0]'hz=43)∨(q=1∧(mkB t)[0]'hz=45):=by
 have hl:0<t.length:=by rw[← qH];exact hz
 obtain⟨c,hc0⟩:∃ c,t[0]?=some c:=⟨_,List.getElem?_eq_getElem hl⟩
 have hg:=QR hz hc0
 rw[hg]
 rcases hq with⟨h1,h2,h3⟩ | ⟨h1,h2⟩ | ⟨h1,h2⟩
 · exact .inl ⟨h1,fun e=>h2 (by rw[hc0,e]),fun e=>h3 (by rw[hc0,e])⟩
 · rw[hc0] at h2;exact .inr (.inl ⟨h1,Option.some.inj h2⟩)
 · rw[hc0] at h2;exact .inr (.inr ⟨h1,Option.some.inj h2⟩)
theorem qfg (t:List UInt8) (q:Nat) (hq:qlZ t q) (ho:qg3 t q) (W:World):Calls Tryz.prog 144 #[.string (mkB t)] W fun e w'=>e = .returned (.tuple #[.int .i64 (qbD t q),.bool true])∧W=w':=by
 obtain⟨o1,o2,o3⟩:=ho
 have hz:0<(mkB t).size:=by rw[qH];omega
 have h:=qnE (mkB t) q (by rw[qH];omega) (by rw[qH];omega) (by rw[qB];exact o3) (qjX hz hq) W
 rw[qB] at h
 obtain⟨c,hc0⟩:∃ c,t[0]?=some c:=⟨_,List.getElem?_eq_getElem zxo⟩
 have hg:=QR hz hc0
 have e:(if (mkB t)[0]'hz=45 then -((qM 0 (t.drop q):Nat):Int) else ((qM 0 (t.drop q):Nat):Int))=qbD t q:=by
  unfold qbD
  rw[hg,hc0]
  by_cases hc:c=45
  · rw[if_pos hc,if_pos (by rw[hc])]
  · rw[if_neg hc,if_neg (fun e=>hc (Option.some.inj e))]
 rw[e] at h
 exact h
theorem qfE (t:List UInt8) (q:Nat) (ht:t≠[]) (hl:t.length≤60) (hq:qlZ t q) (hql:q≤t.length) (hb:qb9 t q) (W:World):Calls Tryz.prog 144 #[.string (mkB t)] W fun e w'=>e = .returned (.tuple #[.int .i64 0,.bool false])∧W=w':=by
 have hz:0<(mkB t).size:=by rw[qH];exact List.length_pos_iff.2 ht
 exact qtS (mkB t) q (by rw[qH];omega) hz (by rw[qH];exact hql) (by rw[qH,qB];exact hb) (qjX hz hq) W
theorem qlX (t:List UInt8) (hl:t.length≤60):∃ (n:Int) (is:Bool),∀ W,Calls Tryz.prog 144 #[.string (mkB t)] W fun e w'=>e = .returned (.tuple #[.int .i64 n,.bool is])∧W=w':=by
 by_cases ht:t=[]
 · subst ht;exact⟨0,false,qdO⟩
 · obtain⟨q,hq,hql,ho | hb⟩:=qed t ht
   · exact⟨_,true,qfg t q hq ho⟩
   · exact⟨0,false,qfE t q ht hl hq hql hb⟩
theorem qqR (s:ByteArray) {k:Nat} {r:List UInt8} (h:s.data.toList.drop k=r):s.extract k s.size=mkB r:=ql9 (by rw[Lib.extract_to_end,qB,h])
structure PF2 (s:ByteArray) (x u r:List UInt8):Prop where
 run:digN (s.data.toList.drop (x.length+1))=u.length
 rest:s.extract (x.length+1+u.length) s.size=mkB r
 le:x.length+1+u.length≤s.size
 rl:r.length≤s.size
theorem JK {s:ByteArray} {x u r:List UInt8} {c0:UInt8} (H:HF s x (u++r) c0) (hu:∀ c∈u,qf c=true) (hr:r=[]∨∃ c t,r=c::t∧qf c=false):PF2 s x u r:=by
 have hsz:=H.size
 rw[List.length_append] at hsz
 refine⟨by rw[H.rest];exact qck hu hr,qqR s ?_,by omega,by omega⟩
 rw[← List.drop_drop,H.rest,List.drop_left]
theorem qaH (s:ByteArray) (hs:s.size≤60) {x u:List UInt8} {c0 c:UInt8} {t:List UInt8} (H:HF s x (u++c::t) c0) (hu0:u≠[]) (hu:∀ c∈u,qf c=true) (hc:qf c=false)
  (h:c≠101∨(c=101∧∃ n:Int,∀ W,Calls Tryz.prog 144 #[.string (mkB t)] W fun e w'=>e = .returned (.tuple #[.int .i64 n,.bool false])∧W=w')):quu s:=fun w=>by
 have hP:=JK H hu (.inr ⟨c,t,rfl,hc⟩)
 have hb0:u.length≠0:=by have:=List.length_pos_iff.2 hu0;omega
 have hR0:0<(mkB (c::t)).size:=by rw[qH];simp
 have hg:(mkB (c::t))[0]'hR0=c:=QR hR0 rfl
 have hT:(mkB (c::t)).extract 1 (mkB (c::t)).size=mkB t:=Q8 _ _ _ rfl
 have hs0:0<s.size:=by have:=H.lt;omega
 have htl:t.length≤60:=by have:=hP.rl;simp at this;omega
 have hrl:=hP.rl
 rcases h with h | ⟨h,n,hE⟩
 · obtain⟨n,is,hE⟩:=qlX t htl
   have hR1:(mkB (c::t))[0]'hR0≠101:=by rw[hg];exact h
   by_cases hm:1<x.length
   · have hz:c0≠48:=by rcases H.z with hz | hz;omega;exact hz
     exact qdw s _ c0 w hs H.dig H.pos hs0 H.get0 hm hz H.lt 46 H.dot rfl _ rfl _ hP.run hb0 _ rfl hP.le _ _ hP.rest hR0 hR1 is n hT hE
   · exact qdT s _ c0 w hs H.dig H.pos hs0 H.get0 hm H.lt 46 H.dot rfl _ rfl _ hP.run hb0 _ rfl hP.le _ _ hP.rest hR0 hR1 is n hT hE
 · have hR1:(mkB (c::t))[0]'hR0=101:=by rw[hg];exact h
   by_cases hm:1<x.length
   · have hz:c0≠48:=by rcases H.z with hz | hz;omega;exact hz
     exact qc5 s _ c0 w hs H.dig H.pos hs0 H.get0 hm hz H.lt 46 H.dot rfl _ rfl _ hP.run hb0 _ rfl hP.le _ _ hP.rest hR0 hR1 n hT hE
   · exact qdW s _ c0 w hs H.dig H.pos hs0 H.get0 hm H.lt 46 H.dot rfl _ rfl _ hP.run hb0 _ rfl hP.le _ _ hP.rest hR0 hR1 n hT hE
theorem qjJ (s:ByteArray) (hs:s.size≤60) {x u r:List UInt8} (h:Head s.data.toList x (u++r)) (hu0:u≠[]) (hu:∀ c∈u,qf c=true) (ht:TailC r) (hno:¬ qfM r):quu s:=by
 obtain⟨c0,H⟩:=qar h
 cases ht with
 | none hr=>exact absurd (.inl hr) hno
 | other hr =>
  obtain⟨c,t,rfl,hc,hne⟩:=hr
  exact qaH s hs H hu0 hu hc (.inl hne)
 | bare hr =>
  subst hr
  exact qaH s hs H hu0 hu zxd (.inr ⟨rfl,0,qdO⟩)
 | bad hr =>
  obtain⟨t,q,rfl,ht0,hq,hql,hb⟩:=hr
  have hsz:=H.size
  simp only[List.length_append,List.length_cons] at hsz
  exact qaH s hs H hu0 hu zxd (.inr ⟨rfl,0,qfE t q ht0 zxo hq hql hb⟩)
 | good hr=>exact absurd (.inr hr) hno
theorem qeJ (X Y:ByteArray):(X++Y).data.toList=X.data.toList++Y.data.toList:=by simp[ByteArray.data_append]
theorem qlq (s:ByteArray) (a k1 k2:Nat):(s.extract 0 a++s.extract k1 k2).data.toList=s.data.toList.take a++(s.data.toList.take k2).drop k1:=by
 rw[qeJ]
 simp[ByteArray.data_extract,Array.toList_extract,List.extract_eq_take_drop,List.drop_take]
theorem qlf (s:ByteArray) (x u r:List UInt8) (K:Nat) (hK:K=1074) (hs:s.size≤60) (h:Head s.data.toList x (u++r)) (hu0:u≠[]) (hu:∀ c∈u,qf c=true) (hok:qfM r) :
  ∃ xe:Int,AT3 s (jW (qM 0 (x++u)) (xe-u.length) K) (jW (qM 0 (x++u)) (xe-u.length) K == 9218868437227405312) ∧
   ∀ w,Calls Tryz.prog 130 #[.string s] w fun e w'=>e = .returned (if jW (qM 0 (x++u)) (xe-u.length) K=9218868437227405312 then .tuple #[.int .u64 0,.int .i64 3] else .tuple #[.int .u64 (jW (qM 0 (x++u)) (xe-u.length) K:Nat),.int .i64 0])∧Below w.heap.size w w':=by
 obtain⟨c0,H⟩:=qar h
 have hb0:u.length≠0:=by have:=List.length_pos_iff.2 hu0;omega
 have hsz:=H.size
 rw[List.length_append] at hsz
 have hall:(s.extract 0 x.length++s.extract (x.length+1) (x.length+1+u.length)).data.toList=x++u:=by
  rw[qlq,h.1,List.take_left]
  congr 1
  rw[show x++46::(u++r)=(x++46::u)++r by simp,List.take_append_of_le_length (by simp;omega),List.take_of_length_le (by simp;omega),List.drop_append,List.drop_eq_nil_of_le zxo,show x.length+1-x.length=1 by omega]
  rfl
 have hAs:(s.extract 0 x.length++s.extract (x.length+1) (x.length+1+u.length)).size≤59:=by
  rw[← lsz,hall,List.length_append];omega
 have hdig:∀ c∈(s.extract 0 x.length++s.extract (x.length+1) (x.length+1+u.length)).data.toList,qf c=true:=by
  rw[hall]
  intro c hc
  rcases List.mem_append.1 hc with hc | hc
  · exact H.digs c hc
  · exact hu c hc
 have hV:qM 0 (s.extract 0 x.length++s.extract (x.length+1) (x.length+1+u.length)).data.toList=qM 0 (x++u):=by rw[hall]
 rcases hok with rfl | ⟨t,q,rfl,hq,ho⟩
 · have hP:=JK H hu (.inl rfl)
   refine⟨0,qqJ s x u K hK hs h hu0 hu,fun w=>?_⟩
   exact qoM s _ _ _ _ _ _ _ _ _ K 0 w hK hs c0 46 H.dig H.pos H.get0 H.z H.lt H.dot rfl rfl hP.run hb0 rfl hP.le hP.rest qoL rfl rfl rfl rfl hAs hdig hV zxd zxd
 · have hP:=JK H hu (.inr ⟨101,t,rfl,by decide⟩)
   have hr:=qb7 ho
   have hR0:0<(mkB (101::t)).size:=by rw[qH];simp
   refine⟨qbD t q,qtL s x u t q K hK hs h hu0 hu hq ho,fun w=>?_⟩
   exact qow s _ _ _ _ _ _ _ _ _ K (qbD t q) w hK hs c0 46 H.dig H.pos H.get0 H.z H.lt H.dot rfl rfl hP.run hb0 rfl hP.le hP.rest hR0 (QR hR0 rfl) _ (Q8 _ _ _ rfl) (qfg t q hq ho) rfl rfl rfl hAs hdig hV hr.1 hr.2
theorem qaB (s:ByteArray) (hs:s.size≤1000000):∃ (f:Nat) (ge:Int),
  (∀ w,Glob3 w→Calls Tryz.prog 173 #[.string s] w fun e w'=>e = .returned (.tuple #[.float .f64 f,.int .i64 ge])∧Below w.heap.size w w') ∧
  ∀ w',Calls Tryz.prog 130 #[.string s] w' fun e w2=>e = .returned (.tuple #[.int .u64 f,.int .i64 ge])∧Below w'.heap.size w' w2:=by
 by_cases h60:s.size≤60
 · obtain⟨K,hK⟩:∃ K,K=1074:=⟨_,rfl⟩
   cases qiq s.data.toList with
   | nohead h =>
    refine⟨0,4,fun w hG=>?_,fun w'=>qdj s h60 h w'⟩
    obtain⟨m,hm⟩:=hG.g2.glob.knows.maxlen
    exact JP s h60 w (qhy s m w h60 hm h)
   | nofrac h =>
    obtain⟨x,y,hh,h0⟩:=h
    refine⟨0,4,fun w hG=>?_,fun w'=>qdE s h60 hh h0 w'⟩
    obtain⟨m,hm⟩:=hG.g2.glob.knows.maxlen
    exact JP s h60 w (qig s m w h60 hm hh h0)
   | parts h =>
    obtain⟨x,u,r,hh,hu0,hu,ht⟩:=h
    rcases qlv s h60 hh hu0 hu ht with⟨hok,hf⟩ | ⟨hno,hf⟩
    · obtain⟨xe,hat,hrf⟩:=qlf s x u r K hK h60 hh hu0 hu hok
      by_cases htop:jW (qM 0 (x++u)) (xe-u.length) K=9218868437227405312
      · rw[qgB htop] at hat
        refine⟨0,3,fun w hG=>?_,fun w'=>?_⟩
        · obtain⟨m,hm⟩:=hG.g2.glob.knows.maxlen
          exact qcE s _ hat h60 w hG (hf m w hm)
        · have h3:=hrf w'
          rw[if_pos htop] at h3
          exact h3
      · rw[QS (by have:=qcR (qM 0 (x++u)) (xe-u.length) K;omega)] at hat
        refine⟨jW (qM 0 (x++u)) (xe-u.length) K,0,fun w hG=>?_,fun w'=>?_⟩
        · obtain⟨m,hm⟩:=hG.g2.glob.knows.maxlen
          exact qdJ s _ hat h60 w hG (hf m w hm)
        · have h3:=hrf w'
          rw[if_neg htop] at h3
          exact h3
    · refine⟨0,4,fun w hG=>?_,fun w'=>qjJ s h60 hh hu0 hu ht hno w'⟩
      obtain⟨m,hm⟩:=hG.g2.glob.knows.maxlen
      exact JP s h60 w (hf m w hm)
 · exact⟨0,3,fun w hG=>qcp s zxo hs w,fun w'=>qgS s zxo hs w'⟩
end Go.Proofs.YtacdfjlncfidgaaGreatDoor
