/- A part of what the claim leans on. -/
import Derived.Test.YtacdfjlncfidgaaGreatDoorQS
import Derived.Test.YtacdfjlncfidgaaGreatDoorRB
namespace Go.Proofs.YtacdfjlncfidgaaGreatDoor
open Go.RowKit
set_option linter.unusedVariables false
set_option linter.unusedSimpArgs false
set_option maxRecDepth 100000
set_option maxHeartbeats 1600000
def okC:Nat→Nat→Nat→BL→Bool
 | _,_,0,_=>true
 | lo,hi,n+1,x::r=>decide (lo≤x.toNat)&&decide (x.toNat≤hi)&&okC 128 191 n r
 | _,_,_+1,[]=>false
def hdC (c:Nat):Nat×Nat×Nat :=
 if c<194 then (0,128,191) else if c<224 then (1,128,191) else if c=224 then (2,160,191) else if c=237 then (2,128,159) else if c<240 then (2,128,191)
 else if c=240 then (3,144,191) else if c<244 then (3,128,191) else if c=244 then (3,128,143) else (0,128,191)
def qW (L:BL):Nat:=match L with
 | []=>0
 | c::r=>if c.toNat<128 then 1 else if (hdC c.toNat).1≠0∧okC (hdC c.toNat).2.1 (hdC c.toNat).2.2 (hdC c.toNat).1 r=true then (hdC c.toNat).1+1 else 0
theorem qmi {s:ByteArray} {L:BL} (h:s.data.toList=L) (k:Nat) (x:UInt8) (hk:L[k]?=some x):s.get! (0+k)=x:=by
 have hlt:k<s.data.toList.length:=by rw[h];exact(List.getElem?_eq_some_iff.1 hk).1
 have:s.get! (0+k)=s.data[k]!:=by rw[Nat.zero_add];rfl
 rw[this,getElem!_pos s.data k hlt]
 have h2:s.data.toList[k]?=some s.data[k]:=by rw[List.getElem?_eq_getElem hlt];rfl
 rw[h,hk] at h2
 exact(Option.some.inj h2).symm
theorem Jl (x:UInt8):x.toNat<256:=UInt8.toNat_lt x
theorem qhH (n:Nat):Utf8.valid (n:Int)=true↔n<55296∨(57344≤n∧n≤1114111):=by
 unfold Utf8.valid
 simp only[Bool.or_eq_true,Bool.and_eq_true,decide_eq_true_eq]
 omega
theorem qjE (c:Nat):(c<194∧hdC c=(0,128,191))∨(194≤c∧c<224∧hdC c=(1,128,191))∨(c=224∧hdC c=(2,160,191))∨(c=237∧hdC c=(2,128,159))∨(224<c∧c<240∧c≠237∧hdC c=(2,128,191))∨(c=240∧hdC c=(3,144,191))∨(240<c∧c<244∧hdC c=(3,128,191))∨(c=244∧hdC c=(3,128,143))∨(244<c∧hdC c=(0,128,191)):=by
 unfold hdC
 by_cases h1:c<194
 · simp[h1]
 by_cases h2:c<224
 · simp[h1,h2];omega
 by_cases h3:c=224
 · simp[h3]
 by_cases h4:c=237
 · simp[h4]
 by_cases h5:c<240
 · simp[h1,h2,h3,h4,h5];omega
 by_cases h6:c=240
 · simp[h6]
 by_cases h7:c<244
 · simp[h1,h2,h3,h4,h5,h6,h7];omega
 by_cases h8:c=244
 · simp[h8]
 · simp[h1,h2,h3,h4,h5,h6,h7,h8];omega
def qhd (b x y z m:Nat):Nat :=
 if b<128 then 1
 else if b/32=6∧1≤m∧x/64=2 then (if 128≤(b%32)*64+x%64 then 2 else 1)
 else if b/16=14∧(1≤m∧x/64=2)∧(2≤m∧y/64=2) then (if 2048≤(b%16)*4096+(x%64)*64+y%64∧((b%16)*4096+(x%64)*64+y%64<55296∨(57344≤(b%16)*4096+(x%64)*64+y%64∧(b%16)*4096+(x%64)*64+y%64≤1114111)) then 3 else 1)
 else if b/8=30∧(1≤m∧x/64=2)∧(2≤m∧y/64=2)∧(3≤m∧z/64=2) then (if 65536≤(b%8)*262144+(x%64)*4096+(y%64)*64+z%64∧((b%8)*262144+(x%64)*4096+(y%64)*64+z%64<55296∨(57344≤(b%8)*262144+(x%64)*4096+(y%64)*64+z%64∧(b%8)*262144+(x%64)*4096+(y%64)*64+z%64≤1114111)) then 4 else 1)
 else 1
def quE (b x y z n:Nat):Nat×Nat :=
 if b<0x80 then (b,1)
 else if b/32 == 6&&(decide (0+1<n)&&x/64 == 2) then
  (if (b%32)*64+x%64≥0x80 then ((b%32)*64+x%64,2) else (Utf8.runeError,1))
 else if b/16 == 14&&(decide (0+1<n)&&x/64 == 2)&&(decide (0+2<n)&&y/64 == 2) then
  (if decide ((b%16)*4096+(x%64)*64+y%64≥0x800)&&Utf8.valid ((b%16)*4096+(x%64)*64+y%64:Nat) then ((b%16)*4096+(x%64)*64+y%64,3) else (Utf8.runeError,1))
 else if b/8 == 30&&(decide (0+1<n)&&x/64 == 2)&&(decide (0+2<n)&&y/64 == 2)&&(decide (0+3<n)&&z/64 == 2) then
  (if decide ((b%8)*262144+(x%64)*4096+(y%64)*64+z%64≥0x10000)&&Utf8.valid ((b%8)*262144+(x%64)*4096+(y%64)*64+z%64:Nat) then ((b%8)*262144+(x%64)*4096+(y%64)*64+z%64,4) else (Utf8.runeError,1))
 else (Utf8.runeError,1)
theorem qt1 (b x y z n:Nat):(quE b x y z n).2=qhd b x y z (n-1):=by
 have e1:(0+1<n)↔1≤n-1:=by omega
 have e2:(0+2<n)↔2≤n-1:=by omega
 have e3:(0+3<n)↔3≤n-1:=by omega
 unfold quE qhd
 simp only[Bool.and_eq_true,decide_eq_true_eq,beq_iff_eq,qhH,e1,e2,e3,ge_iff_le,and_assoc,apply_ite Prod.snd]
theorem qiw (s:ByteArray):(Utf8.decode s 0).2=qhd (s.get! (0+0)).toNat (s.get! (0+1)).toNat (s.get! (0+2)).toNat (s.get! (0+3)).toNat (s.size-1) :=
 (congrArg Prod.snd (show Utf8.decode s 0=quE (s.get! (0+0)).toNat (s.get! (0+1)).toNat (s.get! (0+2)).toNat (s.get! (0+3)).toNat s.size from rfl)).trans (qt1 _ _ _ _ _)
theorem qsI (b x y z m:Nat) (hb:194≤b) (hb2:b<224) (hx:x<256):qhd b x y z m=if 1≤m∧128≤x∧x≤191 then 2 else 1:=by
 unfold qhd
 rw[if_neg zxo]
 by_cases h:1≤m∧128≤x∧x≤191
 · rw[if_pos zxo,if_pos zxo,if_pos h]
 · rw[if_neg zxo,if_neg zxo,if_neg zxo,if_neg h]
theorem qsz (b x y z m:Nat) (hb:128≤b) (hb2:b<194):qhd b x y z m=1:=by
 unfold qhd
 rw[if_neg zxo]
 by_cases h:b/32=6∧1≤m∧x/64=2
 · rw[if_pos h,if_neg zxo]
 · rw[if_neg h,if_neg zxo,if_neg zxo]
theorem qhn (b x y z m:Nat) (hb:224≤b) (hb2:b<240) (hx:x<256) (hy:y<256):qhd b x y z m=if 2≤m∧(128≤x∧x≤191)∧(128≤y∧y≤191)∧(b=224→160≤x)∧(b=237→x≤159) then 3 else 1:=by
 unfold qhd
 rw[if_neg zxo,if_neg zxo]
 by_cases h:2≤m∧(128≤x∧x≤191)∧(128≤y∧y≤191)
 · rw[if_pos zxo]
   by_cases h2:(b=224→160≤x)∧(b=237→x≤159)
   · rw[if_pos zxo,if_pos ⟨h.1,h.2.1,h.2.2,h2⟩]
   · rw[if_neg zxo,if_neg (fun hh=>h2 ⟨hh.2.2.2.1,hh.2.2.2.2⟩)]
 · rw[if_neg zxo,if_neg zxo,if_neg (fun hh=>h ⟨hh.1,hh.2.1,hh.2.2.1⟩)]
theorem qfj (b x y z m:Nat) (hb:240≤b) (hb2:b<256) (hx:x<256) (hy:y<256) (hz:z<256):qhd b x y z m=if b≤244∧3≤m∧(128≤x∧x≤191)∧(128≤y∧y≤191)∧(128≤z∧z≤191)∧(b=240→144≤x)∧(b=244→x≤143) then 4 else 1:=by
 unfold qhd
 rw[if_neg zxo,if_neg zxo,if_neg zxo]
 by_cases h:b/8=30∧3≤m∧(128≤x∧x≤191)∧(128≤y∧y≤191)∧(128≤z∧z≤191)
 · rw[if_pos zxo]
   by_cases h2:b≤244∧(b=240→144≤x)∧(b=244→x≤143)
   · rw[if_pos zxo,if_pos ⟨h2.1,h.2.1,h.2.2.1,h.2.2.2.1,h.2.2.2.2,h2.2⟩]
   · rw[if_neg zxo,if_neg (fun hh=>h2 ⟨hh.1,hh.2.2.2.2.2.1,hh.2.2.2.2.2.2⟩)]
 · rw[if_neg zxo,if_neg (fun hh=>h ⟨by omega,hh.2.1,hh.2.2.1,hh.2.2.2.1,hh.2.2.2.2.1⟩)]
theorem qi5 (lo hi:Nat) (r:BL):okC lo hi 1 r=true↔∃ x r',r=x::r'∧lo≤x.toNat∧x.toNat≤hi:=by
 cases r with
 | nil=>simp[okC]
 | cons x r'=>simp[okC]
theorem qj8 (lo hi n:Nat) (r:BL):okC lo hi (n+1) r=true↔∃ x r',r=x::r'∧lo≤x.toNat∧x.toNat≤hi∧okC 128 191 n r'=true:=by
 cases r with
 | nil=>simp[okC]
 | cons x r'=>simp[okC,and_assoc]
theorem qbs (s:ByteArray) (c:UInt8) (r:BL) (h:s.data.toList=c::r) (k:Nat) (x:UInt8) (hk:r[k]?=some x):s.get! (0+(k+1))=x:=qmi h (k+1) x (by simpa using hk)
theorem qqp {n:Nat} {P:Prop} [Decidable P] (hn:n≠0) (h:P):(if (if n≠0∧P then n+1 else 0)=0 then 1 else (if n≠0∧P then n+1 else 0))=n+1:=by
 have e:(if n≠0∧P then n+1 else 0)=n+1:=if_pos ⟨hn,h⟩
 simp only[e]
 exact if_neg zxo
theorem qrT {n:Nat} {P:Prop} [Decidable P] (h:¬ P):(if (if n≠0∧P then n+1 else 0)=0 then 1 else (if n≠0∧P then n+1 else 0))=1:=by
 have e:(if n≠0∧P then n+1 else 0)=0:=if_neg (fun hh=>h hh.2)
 exact if_pos e
theorem qen (s:ByteArray) (c:UInt8) (r:BL) (h:s.data.toList=c::r):(Lib.decodeGo s).2=if qW (c::r)=0 then 1 else qW (c::r):=by
 have hsz:s.size=r.length+1:=by show s.data.toList.length=_;rw[h];simp
 unfold Lib.decodeGo
 rw[if_neg zxo,qiw]
 have g0:=qmi h 0 c rfl
 rw[g0,hsz,Nat.add_sub_cancel]
 obtain⟨x,hx⟩:∃ x,(s.get! (0+1))=x:=⟨_,rfl⟩
 obtain⟨y,hy⟩:∃ y,(s.get! (0+2))=y:=⟨_,rfl⟩
 obtain⟨z,hz⟩:∃ z,(s.get! (0+3))=z:=⟨_,rfl⟩
 rw[hx,hy,hz]
 have hc:=Jl c
 have bx:=Jl x
 have by_:=Jl y
 have bz:=Jl z
 have h1:∀ a r',r=a::r'→a=x:=fun a r' e=>by
  have:=qbs s c r h 0 a (by rw[e];rfl)
  exact this.symm.trans hx
 have h2:∀ a b r',r=a::b::r'→b=y:=fun a b r' e=>by
  have:=qbs s c r h 1 b (by rw[e];rfl)
  exact this.symm.trans hy
 have h3:∀ a b d r',r=a::b::d::r'→d=z:=fun a b d r' e=>by
  have:=qbs s c r h 2 d (by rw[e];rfl)
  exact this.symm.trans hz
 have k1:∀ lo hi,okC lo hi 1 r=true↔1≤r.length∧lo≤x.toNat∧x.toNat≤hi:=fun lo hi=>by
  rw[qi5]
  constructor
  · rintro⟨a,r',e,p1,p2⟩
    have:=h1 a r' e;subst this
    exact⟨by rw[e];simp,p1,p2⟩
  · rintro⟨p0,p1,p2⟩
    cases r with
    | nil=>simp at p0
    | cons a r'=>have:=h1 a r' rfl;subst this;exact⟨_,_,rfl,p1,p2⟩
 have k2:∀ lo hi,okC lo hi 2 r=true↔2≤r.length∧(lo≤x.toNat∧x.toNat≤hi)∧128≤y.toNat∧y.toNat≤191:=fun lo hi=>by
  rw[qj8]
  constructor
  · rintro⟨a,r',e,p1,p2,p3⟩
    rw[qi5] at p3
    obtain⟨b,r'',e2,p4,p5⟩:=p3
    subst e2
    have:=h1 a _ e;subst this
    have:=h2 _ b _ e;subst this
    exact⟨by rw[e];simp,⟨p1,p2⟩,p4,p5⟩
  · rintro⟨p0,⟨p1,p2⟩,p3,p4⟩
    match r,p0,h1,h2 with
    | a::b::r',_,h1,h2 =>
     have:=h1 a _ rfl;subst this
     have:=h2 _ b _ rfl;subst this
     exact⟨_,_,rfl,p1,p2,(qi5 _ _ _).2 ⟨_,_,rfl,p3,p4⟩⟩
 have k3:∀ lo hi,okC lo hi 3 r=true↔3≤r.length∧(lo≤x.toNat∧x.toNat≤hi)∧(128≤y.toNat∧y.toNat≤191)∧128≤z.toNat∧z.toNat≤191:=fun lo hi=>by
  rw[qj8]
  constructor
  · rintro⟨a,r',e,p1,p2,p3⟩
    rw[qj8] at p3
    obtain⟨b,r'',e2,p4,p5,p6⟩:=p3
    rw[qi5] at p6
    obtain⟨d,r3,e3,p7,p8⟩:=p6
    subst e3 e2
    have:=h1 a _ e;subst this
    have:=h2 _ b _ e;subst this
    have:=h3 _ _ d _ e;subst this
    exact⟨by rw[e];simp,⟨p1,p2⟩,⟨p4,p5⟩,p7,p8⟩
  · rintro⟨p0,⟨p1,p2⟩,⟨p3,p4⟩,p5,p6⟩
    match r,p0,h1,h2,h3 with
    | a::b::d::r',_,h1,h2,h3 =>
     have:=h1 a _ rfl;subst this
     have:=h2 _ b _ rfl;subst this
     have:=h3 _ _ d _ rfl;subst this
     exact⟨_,_,rfl,p1,p2,(qj8 _ _ _ _).2 ⟨_,_,rfl,p3,p4,(qi5 _ _ _).2 ⟨_,_,rfl,p5,p6⟩⟩⟩
 have hst:qW (c::r)=if c.toNat<128 then 1 else if (hdC c.toNat).1≠0∧okC (hdC c.toNat).2.1 (hdC c.toNat).2.2 (hdC c.toNat).1 r=true then (hdC c.toNat).1+1 else 0:=rfl
 rw[hst]
 clear hst
 generalize r.length=m at *
 clear h h1 h2 h3 hx hy hz g0 hsz
 by_cases c1:c.toNat<128
 · rw[if_pos c1];unfold qhd;rw[if_pos c1];rfl
 rw[if_neg c1]
 rcases qjE c.toNat with⟨p1,e⟩ | ⟨p1,p2,e⟩ | ⟨p1,e⟩ | ⟨p1,e⟩ | ⟨p1,p2,p3,e⟩ | ⟨p1,e⟩ | ⟨p1,p2,e⟩ | ⟨p1,e⟩ | ⟨p1,e⟩<;>rw[e]<;>simp only[k1,k2,k3]
 · rw[qsz _ _ _ _ _ zxo p1];simp
 · rw[qsI _ _ _ _ _ p1 p2 bx]
   by_cases q:1≤m∧128≤x.toNat∧x.toNat≤191
   · rw[if_pos q];exact(qqp zxd q).symm
   · rw[if_neg q];exact(qrT q).symm
 · rw[qhn _ _ _ _ _ zxo zxo bx by_]
   by_cases q:2≤m∧(160≤x.toNat∧x.toNat≤191)∧128≤y.toNat∧y.toNat≤191
   · exact qgN
   · exact qgX
 · rw[qhn _ _ _ _ _ zxo zxo bx by_]
   by_cases q:2≤m∧(128≤x.toNat∧x.toNat≤159)∧128≤y.toNat∧y.toNat≤191
   · exact qgN
   · exact qgX
 · rw[qhn _ _ _ _ _ zxo zxo bx by_]
   by_cases q:2≤m∧(128≤x.toNat∧x.toNat≤191)∧128≤y.toNat∧y.toNat≤191
   · exact qgN
   · exact qgX
 · rw[qfj _ _ _ _ _ zxo zxo bx by_ bz]
   by_cases q:3≤m∧(144≤x.toNat∧x.toNat≤191)∧(128≤y.toNat∧y.toNat≤191)∧128≤z.toNat∧z.toNat≤191
   · exact qgN
   · exact qgX
 · rw[qfj _ _ _ _ _ zxo zxo bx by_ bz]
   by_cases q:3≤m∧(128≤x.toNat∧x.toNat≤191)∧(128≤y.toNat∧y.toNat≤191)∧128≤z.toNat∧z.toNat≤191
   · exact qgN
   · exact qgX
 · rw[qfj _ _ _ _ _ zxo zxo bx by_ bz]
   by_cases q:3≤m∧(128≤x.toNat∧x.toNat≤143)∧(128≤y.toNat∧y.toNat≤191)∧128≤z.toNat∧z.toNat≤191
   · exact qgN
   · exact qgX
 · rw[qfj _ _ _ _ _ zxo zxo bx by_ bz]
   rw[if_neg zxo];simp
theorem qfG (L:BL):qW L≤L.length:=by
 have hok:∀ n lo hi r,okC lo hi n r=true→n≤r.length:=by
  intro n
  induction n with
  | zero=>intros;omega
  | succ n ih =>
   intro lo hi r h
   cases r with
   | nil=>simp[okC] at h
   | cons x r=>simp only[okC,Bool.and_eq_true] at h;have:=ih _ _ _ h.2;simp;omega
 unfold qW
 cases L with
 | nil=>simp
 | cons c r =>
  simp only
  split
  · simp
  · split
    · rename_i h;have:=hok _ _ _ _ h.2;simp;omega
    · omega
def qcb (L:BL) (at_:Nat):Option Nat :=
 if h:at_<L.length then
  if h2:qW (L.drop at_)=0 then some at_ else qcb L (at_+qW (L.drop at_))
 else none
termination_by L.length-at_
theorem qfF {L:BL} {k:Nat} (h:L.length≤k):qcb L k=none:=by rw[qcb,dif_neg zxo]
theorem qeg {L:BL} {k:Nat} (h:k<L.length) (h2:qW (L.drop k)=0):qcb L k=some k:=by rw[qcb,dif_pos h,dif_pos h2]
theorem qd9 {L:BL} {k:Nat} (h:k<L.length) (h2:qW (L.drop k)≠0):qcb L k=qcb L (k+qW (L.drop k)):=by rw[qcb,dif_pos h,dif_neg h2]
def qmq (o:Option Nat):Value:=match o with | some k=>.int .i64 (k:Nat) | none=>.int .i64 (-1)
abbrev U8T (w:World):Prop:=Lib.Utf8Tabs 3 4 w
theorem qg1 {c:UInt8} {r:BL}:qW (c::r)≤1→qW (c::r)≠0→c.toNat<128:=by
 unfold qW
 simp only
 split
 · intros;assumption
 · split<;>intros<;>omega
theorem qjz (s:ByteArray) (w:World) (hs:s.size≤1000000) (hU:U8T w) :
  Calls Tryz.prog 152 #[.string s] w fun e w'=>e = .returned (qmq (qcb s.data.toList 0))∧Below w.heap.size w w':=by
 have hsz:s.data.toList.length=s.size:=rfl
 have HSZ:=zxi hsz
 have HU:=zxi hU
 clear hsz hU
 go_enter Tryz.func152,Tryz.ntmps152
 go_wp2_with fail
 go_loopw [3] (fun iv wr=>∃ k:Nat,k≤s.size∧iv = .int .i64 k∧qcb s.data.toList 0=qcb s.data.toList k∧Below w.heap.size w wr) (fun iv _=>s.size-(intOf iv).toNat)
 case atStart=>exact⟨0,Nat.zero_le _,rfl,rfl,Below.refl _ _⟩
 case round =>
  obtain⟨k,hk,rfl,hv,hb⟩:=hrel
  have HB:=zxi hb
  clear hb
  by_cases hlt:k<s.size
  · have hlt2:(k:Int)<(s.size:Int):=by omega
    have hkle:(k:Int)≤(s.size:Int):=by omega
    obtain⟨c,hc⟩:∃ c,s[k]=c:=⟨_,rfl⟩
    have hdr:=QB (Ql hlt)
    rw[hc] at hdr
    have hD:=Tryz.utf8_DecodeRuneInString (s.extract k s.size) wr (Utf8Tabs_below HU.out HB.out)
    have hds:=qen (s.extract k s.size) c (s.data.toList.drop (k+1)) (by rw[ju,hdr])
    rw[hds,← hdr] at hD
    obtain⟨r1,hr1⟩:∃ r1,(Lib.decodeGo (s.extract k s.size)).1=r1:=⟨_,rfl⟩
    rw[hr1] at hD
    have hasc:=qg1 (c:=c) (r:=s.data.toList.drop (k+1))
    rw[← hdr] at hasc
    have hge:qW (s.data.toList.drop k)=0→¬ c.toNat<128:=by
     intro h h2
     rw[hdr] at h
     have:qW (c::s.data.toList.drop (k+1))=1:=if_pos h2
     omega
    have hle:=qfG (s.data.toList.drop k)
    rw[List.length_drop,HSZ.out] at hle
    have HZ:=zxi (fun h2=>qeg (L:=s.data.toList) (k:=k) (by rw[HSZ.out];exact hlt) h2)
    have HST:=zxi (fun h2=>qd9 (L:=s.data.toList) (k:=k) (by rw[HSZ.out];exact hlt) h2)
    obtain⟨n,hn⟩:∃ n,qW (s.data.toList.drop k)=n:=⟨_,rfl⟩
    rw[hn] at hD hle hasc hge
    simp only[hn] at HZ HST
    clear hdr hr1 hds hn
    by_cases hn0:n=0
    · subst hn0
      have HD:=zxi (show Calls Tryz.prog 141 #[.string (s.extract k s.size)] wr fun e w'=>e = .returned (.tuple #[.int .i32 (r1:Nat),.int .i64 1])∧Below wr.heap.size wr w' from hD)
      have b1:(128:Int)≤(c.toNat:Int):=by have:=hge rfl;omega
      have HV:=zxi (hv.trans (HZ.out rfl))
      clear hD hv hasc hge hle
      go_wp2_with (first | (go_at_call 141;refine HD.out.mono ?_;rintro e w' ⟨rfl,hb2⟩))
      go_ret
      exact⟨by rw[HV.out];rfl,HB.out.trans (hb2.mono HB.out.size)⟩
    · rw[if_neg hn0] at hD
      have HD:=zxi hD
      have HV:=zxi (hv.trans (HST.out hn0))
      by_cases hn1:n=1
      · subst hn1
        have HD:=zxi (show Calls Tryz.prog 141 #[.string (s.extract k s.size)] wr fun e w'=>e = .returned (.tuple #[.int .i32 (r1:Nat),.int .i64 1])∧Below wr.heap.size wr w' from hD)
        have b1:¬ (128:Int)≤(c.toNat:Int):=by have:=hasc zxn zxd;omega
        clear hD hv hasc hge
        go_wp2_with (first | (go_at_call 141;refine HD.out.mono ?_;rintro e w' ⟨rfl,hb2⟩))
        go_roundw
        case rel=>exact⟨k+1,by omega,by go_num,HV.out,HB.out.trans (hb2.mono HB.out.size)⟩
        case measure=>simp only[intOf];omega
      · have b1:((n:Int) == 1)=false:=beq_eq_false_iff_ne.2 zxo
        clear hD hv hasc hge
        go_wp2_with (first | (go_at_call 141;refine HD.out.mono ?_;rintro e w' ⟨rfl,hb2⟩))
        go_roundw
        case rel=>exact⟨k+n,by omega,by go_num,HV.out,HB.out.trans (hb2.mono HB.out.size)⟩
        case measure=>simp only[intOf];omega
  · have hlt2:¬ (k:Int)<(s.size:Int):=by omega
    have HV:=zxi (hv.trans (qfF (by rw[HSZ.out];omega)))
    clear hv
    exact qmY
end Go.Proofs.YtacdfjlncfidgaaGreatDoor
