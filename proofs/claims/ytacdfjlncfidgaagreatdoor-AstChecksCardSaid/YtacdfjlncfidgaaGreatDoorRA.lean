/- A part of what the claim leans on. -/
import Derived.Test.YtacdfjlncfidgaaGreatDoorQS
import Derived.Test.YtacdfjlncfidgaaGreatDoorQB
import Derived.Test.YtacdfjlncfidgaaGreatDoorQC
import Derived.Test.YtacdfjlncfidgaaGreatDoorQShelf
import Derived.Shelf.Strings.SlTrimAscii
namespace Go.Proofs.YtacdfjlncfidgaaGreatDoor
open Go.RowKit
set_option linter.unusedVariables false
set_option linter.unusedSimpArgs false
set_option maxHeartbeats 800000
abbrev BL:=List UInt8
def jb (c:UInt8):Bool:=(decide (97≤c.toNat)&&decide (c.toNat≤122))||(decide (65≤c.toNat)&&decide (c.toNat≤90))||decide (c.toNat=95)
def Jr (c:UInt8):Bool:=jb c||qf c
def qc2 (c:UInt8):Bool:=decide (c.toNat=32)||decide (c.toNat=9)||decide (c.toNat=13)
def qp (L:BL):Nat:=match L with
 | []=>0
 | c::_=>if jb c then (L.takeWhile Jr).length else 0
def sgN (p:BL):Nat:=match p with
 | []=>0
 | c::_=>if c.toNat=43∨c.toNat=45 then 1 else 0
def qcv (r:BL):Nat:=match r with
 | []=>0
 | c::p=>if c.toNat=101 then (if digN (p.drop (sgN p))=0 then 0 else 1+sgN p+digN (p.drop (sgN p))) else 0
def Qm (L:BL):Nat×Nat :=
 if digN L=0∨L[digN L]?≠some 46∨digN (L.drop (digN L+1))=0 then (3,digN L)
 else (4,digN L+1+digN (L.drop (digN L+1))+qcv (L.drop (digN L+1+digN (L.drop (digN L+1)))))
def qaR (c:UInt8):Option Nat:=if qf c then some (c.toNat-48) else if 97≤c.toNat∧c.toNat≤102 then some (c.toNat-87) else none
def Ja (L:BL):Option (UInt8×Nat):=match L with
 | []=>none
 | c::r=>if c.toNat=110 then some (10,1) else if c.toNat=116 then some (9,1) else if c.toNat=34∨c.toNat=92 then some (c,1)
  else if c.toNat=120 then (match r with
   | a::b::_=>(match qaR a,qaR b with
    | some h,some l=>some (UInt8.ofNat (h*16+l),3)
    | _,_=>none)
   | _=>none)
  else none
theorem qfc {L:BL} {x:UInt8} {n:Nat} (h:Ja L=some (x,n)):0<n∧n≤3∧n≤L.length:=by
 unfold Ja at h
 split at h
 · cases h
 · split at h
   · cases h;simp
   · split at h
     · cases h;simp
     · split at h
       · cases h;simp
       · split at h
         · split at h
           · split at h
             · cases h;simp
             · cases h
           · cases h
         · cases h
def quotAt (L:BL) (i:Nat) (b:BL):Option (BL×Nat) :=
 if hi:i<L.length then
  if (L[i]).toNat=34 then some (b,i+1)
  else if (L[i]).toNat<32∨(L[i]).toNat=127 then none
  else if (L[i]).toNat=92 then
   match Ja (L.drop (i+1)) with
   | none=>none
   | some (x,n)=>quotAt L (i+1+n) (b++[x])
  else quotAt L (i+1) (b++[L[i]])
 else none
termination_by L.length-i
def Qr (L:BL):Option (BL×Nat):=match L with
 | []=>none
 | c::_=>if c.toNat=34 then quotAt L 1 [] else none
def resW:List BL:=[[98,114,101,97,107],[99,111,110,116,105,110,117,101],[101,108,115,101],[102,97,108,115,101],[102,108,111,97,116,54,52],[102,111,114],[102,117,110,99],[105,102],[105,109,112,111,114,116],[105,110,116],[98,111,111,108],[115,116,114,105,110,103],[108,101,110],[112,97,99,107,97,103,101],[112,97,110,105,99],[112,114,105,110,116],[114,101,116,117,114,110],[115,116,114,117,99,116],[116,114,117,101],[116,121,112,101],[118,97,114]]
def endW:List BL:=[[116,114,117,101],[102,97,108,115,101],[114,101,116,117,114,110],[98,114,101,97,107],[99,111,110,116,105,110,117,101],[105,110,116],[98,111,111,108],[115,116,114,105,110,103],[102,108,111,97,116,54,52]]
def marks2:List BL:=[[61,61],[33,61],[60,61],[62,61],[38,38],[124,124],[58,61]]
def marks1:List BL:=[[43],[45],[42],[47],[37],[60],[62],[33],[61],[40],[41],[123],[125],[44],[46],[58]]
def jX (L:BL):Nat:=if marks2.any (fun m=>m.isPrefixOf L) then 2 else if marks1.any (fun m=>m.isPrefixOf L) then 1 else 0
def qlS (L:BL):Int:=if QG L then (if qM 0 L≤9223372036854775807 then 0 else 3) else 4
def qs (eF:BL→Int) (L:BL):Int×Nat×Nat :=
 if 0<qp L then
  (if resW.contains (L.take (qp L)) then (0,2,qp L) else if 40<qp L then (3,1,qp L) else if L.take (qp L)=[95] then (9,1,qp L) else (0,1,qp L))
 else if 0<(Qm L).2 then
  ((if (Qm L).1=3 then qlS (L.take (Qm L).2) else eF (L.take (Qm L).2)),(Qm L).1,(Qm L).2)
 else match Qr L with
  | some (v,n)=>((if 4096<v.length then 3 else 0),5,n)
  | none=>if L.head?=some 59 then (0,7,1) else if 0<jX L then (0,6,jX L) else (4,0,0)
structure Tk where
 kind:Nat
 text:BL
 fr:Nat
 ed:Nat
 deriving DecidableEq,Inhabited
def JF (t:Tk):Bool:=decide (t.kind=1)||decide (t.kind=3)||decide (t.kind=4)||decide (t.kind=5)||(decide (t.kind=2)&&endW.contains t.text)||(decide (t.kind=6)&&(decide (t.text=[41])||decide (t.text=[125])))
def jC (l:List Tk) (last:Option Tk):List Tk:=match last with
 | none=>l
 | some t=>if JF t then l++[⟨7,[],t.ed,t.ed⟩] else l
def qaP (L:BL):Nat:=(L.takeWhile (fun c=>decide (c.toNat≠10))).length
def Jt (eF:BL→Int) (L:BL) (at_:Nat) (acc:List Tk) (last:Option Tk):Except (Nat×Int) (List Tk) :=
 match h:L.drop at_ with
 | []=>.ok (jC acc last)
 | c::r =>
  if qc2 c then Jt eF L (at_+1) acc last
  else if c.toNat=10 then Jt eF L (at_+1) (jC acc last) none
  else if c.toNat=47∧r.head?=some 47 then Jt eF L (at_+1+qaP r) acc last
  else if hn:(qs eF (c::r)).1=0∧0<(qs eF (c::r)).2.2 then
   Jt eF L (at_+(qs eF (c::r)).2.2) (acc++[⟨(qs eF (c::r)).2.1,(c::r).take (qs eF (c::r)).2.2,at_,at_+(qs eF (c::r)).2.2⟩]) (some ⟨(qs eF (c::r)).2.1,(c::r).take (qs eF (c::r)).2.2,at_,at_+(qs eF (c::r)).2.2⟩)
  else .error (at_,(qs eF (c::r)).1)
termination_by L.length-at_
decreasing_by
 all_goals
  have hl:(L.drop at_).length=(c::r).length:=by rw[h]
  rw[List.length_drop,List.length_cons] at hl
  omega
theorem qfN {p q:UInt8→Bool} (h:∀ n:Fin 256,p (UInt8.ofNat n)=q (UInt8.ofNat n)):p=q:=by
 funext c
 have:=h ⟨c.toNat,UInt8.toNat_lt c⟩
 simpa using this
theorem qgE (l:List UInt8) (c:UInt8):decide (Lib.indexByte l c<0) = !l.contains c:=by
 induction l with
 | nil=>rfl
 | cons b l ih =>
  unfold Lib.indexByte
  have hge:=Lib.indexByte_ge l c
  by_cases h:b=c
  · subst h;simp
  · have h1:(b == c)=false:=by simpa using h
    have h2:(c == b)=false:=by simpa using fun e=>h e.symm
    rw[h1,List.contains_cons,h2,Bool.false_or,← ih]
    by_cases h3:Lib.indexByte l c = -1
    · rw[h3];rfl
    · have h4:(Lib.indexByte l c == -1)=false:=by simpa using h3
      rw[h4]
      simp only[Bool.false_eq_true,if_false]
      congr 1
      simp only[eq_iff_iff]
      omega
def lettersB:ByteArray:=⟨#[65,66,67,68,69,70,71,72,73,74,75,76,77,78,79,80,81,82,83,84,85,86,87,88,89,90,97,98,99,100,101,102,103,104,105,106,107,108,109,110,111,112,113,114,115,116,117,118,119,120,121,122,95]⟩
def lettersD:ByteArray:=⟨#[65,66,67,68,69,70,71,72,73,74,75,76,77,78,79,80,81,82,83,84,85,86,87,88,89,90,97,98,99,100,101,102,103,104,105,106,107,108,109,110,111,112,113,114,115,116,117,118,119,120,121,122,95,48,49,50,51,52,53,54,55,56,57]⟩
def figuresB:ByteArray:=⟨#[48,49,50,51,52,53,54,55,56,57]⟩
theorem qgY:(lettersB.data.toList.contains ·)=jb:=qfN (by decide +kernel)
theorem qeT:(lettersD.data.toList.contains ·)=Jr:=qfN (by decide +kernel)
theorem qg7:(figuresB.data.toList.contains ·)=qf:=qfN (by decide +kernel)
theorem qcA (cs:ByteArray) (h:cs.data.toList.all (fun b=>decide (b.toNat<128))=true):∀ (j:Nat) b,cs.data.toList[j]?=some b→b.toNat<128:=fun j b hb=>by
 have:=List.all_eq_true.1 h b (List.mem_of_getElem? hb)
 simpa using this
theorem Qu {s:ByteArray} (h:s.size=0):s.toList=[]:=by
 rw[ByteArray.toList_eq];exact List.eq_nil_of_length_eq_zero h
theorem Jm {s:ByteArray} (h:0<s.size):¬ s.toList=[]:=by
 rw[ByteArray.toList_eq];intro e
 have:s.data.toList.length=s.size:=rfl
 rw[e] at this;simp at this;omega
theorem qmZ:Tryz.zeroCells105=Array.replicate 256 (.bool false):=by kernel_rfl
theorem qrl (s cs:ByteArray) (w:World) (h2:2≤cs.size) (hcs:cs.size<4294967281) (ha:cs.data.toList.all (fun b=>decide (b.toNat<128))=true) :
  Calls Tryz.prog 102 #[.string s,.string cs] w fun e w'=>e = .returned (.string ⟨(s.data.toList.dropWhile (cs.data.toList.contains ·)).toArray⟩)∧Below w.heap.size w w':=by
 by_cases h0:0<s.size
 · refine(Any.strings_TrimLeft_set Tryz.lays161 (fun w=>(Tryz.zeroValue105 w).trans (by rw[qmZ])) (by kernel_rfl) s cs w h2 h0 hcs (qcA cs ha)).mono ?_
   rintro e w' ⟨rfl,rfl⟩
   exact⟨rfl,((Below.refl _ _).alloc zxn _).alloc (by rw[World.size_alloc];omega) _⟩
 · have hz:s.size=0:=by omega
   have t1:=Qu hz
   have hd:s.data.toList=[]:=List.eq_nil_of_length_eq_zero hz
   have hs:s=⟨#[]⟩:=by
    have:s.data=#[]:=Array.toList_inj.1 (by simpa using hd)
    cases s;simp_all
   subst hs
   go_enter Tryz.func102,Tryz.ntmps102
   exact qpw
theorem qdG {p:UInt8→Bool} (l:List UInt8):(l.dropWhile p).length+(l.takeWhile p).length=l.length:=by
 have:=congrArg List.length (List.takeWhile_append_dropWhile (p:=p) (l:=l))
 rw[List.length_append] at this;omega
theorem qay (s:ByteArray) (w:World) (hs:s.size≤9223372036854775807) :
  Calls Tryz.prog 180 #[.string s] w fun e w'=>e = .returned (.int .i64 (digN s.data.toList))∧Below w.heap.size w w':=by
 have HT:=zxi (qrl s figuresB w zxd zxd (by decide +kernel))
 have hl:=qdG (p:=qf) s.data.toList
 rw[qg7] at HT
 have hsz:s.data.toList.length=s.size:=rfl
 have hd:digN s.data.toList=(s.data.toList.takeWhile qf).length:=rfl
 obtain⟨r,hr⟩:∃ r:ByteArray,⟨(s.data.toList.dropWhile qf).toArray⟩=r:=⟨_,rfl⟩
 have hrs:r.size=s.size-digN s.data.toList:=by
  rw[← hr,hd];show(s.data.toList.dropWhile qf).toArray.size=_
  rw[List.size_toArray];omega
 have hdl:digN s.data.toList≤s.size:=qam _
 rw[hr] at HT
 generalize digN s.data.toList=D at *
 clear hl hd hr hsz
 unfold figuresB at HT
 go_enter Tryz.func180,Tryz.ntmps180
 go_wp2_with (go_at_call 102;refine HT.out.mono ?_;rintro e w' ⟨rfl,hb⟩)
 go_ret
 exact⟨jB zxo,hb⟩
theorem qjw (x:UInt8):(x.toNat:Int).toNat.toUInt8=x:=by simp
theorem qmh (cs:ByteArray) (x:UInt8) (w:World) (h:cs.data.toList.contains x=true) :
  Calls Tryz.prog 101 #[.string cs,.int .u8 (x.toNat:Int)] w fun e w'=>(∃ i:Int,e = .returned (.int .i64 i)∧¬ i<0)∧w'=w:=by
 exact qrX
theorem qib (cs:ByteArray) (x:UInt8) (w:World) (h:cs.data.toList.contains x=false) :
  Calls Tryz.prog 101 #[.string cs,.int .u8 (x.toNat:Int)] w fun e w'=>(∃ i:Int,e = .returned (.int .i64 i)∧i<0)∧w'=w:=by
 exact qrX
theorem qau {s:ByteArray} (h:0<s.size):∃ c r,s.data.toList=c::r∧s[0]=c:=by
 have hl:s.data.toList.length=s.size:=rfl
 cases hd:s.data.toList with
 | nil=>rw[hd] at hl;simp at hl;omega
 | cons c r =>
  refine⟨c,r,rfl,?_⟩
  have:s.data.toList[0]?=some s[0]:=by rw[List.getElem?_eq_getElem (by rw[hl];exact h)];rfl
  rw[hd] at this
  simpa using this.symm
theorem qe5 {c:UInt8} (b:Bool) (h:jb c=b):lettersB.data.toList.contains c=b :=
 (congrFun qgY c).trans h
theorem qdR (s:ByteArray) (w:World) (hs:s.size≤9223372036854775807) :
  Calls Tryz.prog 88 #[.string s] w fun e w'=>e = .returned (.int .i64 (qp s.data.toList))∧Below w.heap.size w w':=by
 by_cases h0:0<s.size
 · obtain⟨c,r,hd,hc⟩:=qau h0
   have t1:=Jm h0
   have t3:s.toList.isEmpty=false:=by simpa using t1
   by_cases hL:jb c=true
   · have HI:=zxi (qmh lettersB c w (qe5 _ hL))
     have HT:=zxi (qrl s lettersD w zxd zxd (by decide +kernel))
     rw[qeT] at HT
     have hsp:qp s.data.toList=(s.data.toList.takeWhile Jr).length:=by
      rw[hd];exact if_pos hL
     have hl:=qdG (p:=Jr) s.data.toList
     have hsz:s.data.toList.length=s.size:=rfl
     obtain⟨r,hr⟩:∃ r:ByteArray,⟨(s.data.toList.dropWhile Jr).toArray⟩=r:=⟨_,rfl⟩
     have hrs:r.size+qp s.data.toList=s.size:=by
      rw[← hr,hsp];show(s.data.toList.dropWhile Jr).toArray.size+_=_
      rw[List.size_toArray];omega
     rw[hr] at HT
     generalize qp s.data.toList=D at *
     clear hl hr hsz hsp hd hL
     unfold lettersB at HI
     unfold lettersD at HT
     go_enter Tryz.func88,Tryz.ntmps88
     go_wp2_with (first
      | (go_at_call 101;refine HI.out.mono ?_;rintro e w' ⟨⟨i,rfl,hi⟩,rfl⟩)
      | (go_at_call 102;refine HT.out.mono ?_;rintro e w' ⟨rfl,hb⟩))
     go_ret
     exact⟨jB zxo,hb⟩
   · have hL2:jb c=false:=by simpa using hL
     have HI:=zxi (qib lettersB c w (qe5 _ hL2))
     have hsp:qp s.data.toList=0:=by rw[hd];exact if_neg hL
     rw[hsp]
     clear hsp hd hL hL2
     unfold lettersB at HI
     go_enter Tryz.func88,Tryz.ntmps88
     go_wp2_with (first
      | (go_at_call 101;refine HI.out.mono ?_;rintro e w' ⟨⟨i,rfl,hi⟩,rfl⟩))
     go_ret
     exact⟨rfl,Below.refl _ _⟩
 · have hz:s.size=0:=by omega
   have t1:=Qu hz
   have t3:s.toList.isEmpty=true:=by rw[t1];rfl
   have hd:s.data.toList=[]:=List.eq_nil_of_length_eq_zero hz
   have hsp:qp s.data.toList=0:=by rw[hd];rfl
   rw[hsp]
   go_enter Tryz.func88,Tryz.ntmps88
   exact qpw
theorem qtf (w:World):Calls Tryz.prog 104 #[] w fun e w'=>e = .returned (.slice (some ⟨w.heap.size,0,none⟩) 21 21)∧w'=w.alloc (.cells (resW.map fun l=>Value.string ⟨l.toArray⟩).toArray 9):=by
 go_enter Tryz.func104,Tryz.ntmps104
 exact qdi
def atB (p:UInt8→Bool) (L:BL) (i:Nat):Bool:=match L[i]? with
 | some c=>p c
 | none=>false
theorem qa6 {p:UInt8→Bool} {L:BL} {i:Nat} (h:L.length≤i):atB p L i=false:=by unfold atB;rw[List.getElem?_eq_none h]
theorem qbw {p:UInt8→Bool} {s:ByteArray} {i:Nat} (h:i<s.size):atB p s.data.toList i=p s[i]:=by
 have hl:s.data.toList.length=s.size:=rfl
 unfold atB;rw[List.getElem?_eq_getElem (by rw[hl];exact h)];rfl
theorem JO (s:ByteArray) (i:Nat) (w:World) (hs:s.size≤9223372036854775807) (hi:i≤9223372036854775807) :
  Calls Tryz.prog 59 #[.string s,.int .i64 (i:Int)] w fun e w'=>e = .returned (.bool (atB jb s.data.toList i))∧w'=w:=by
 by_cases hlt:i<s.size
 · rw[qbw hlt]
   obtain⟨c,hc⟩:∃ c,s[i]=c:=⟨_,rfl⟩
   rw[hc]
   have hlt2:(i:Int)<(s.size:Int):=by omega
   by_cases a1:97≤c.toNat
   · have b1:(97:Int)≤(c.toNat:Int):=by omega
     by_cases a2:c.toNat≤122
     · have b2:(c.toNat:Int)≤122:=by omega
       have hv:jb c=true:=by simp[jb,a1,a2]
       rw[hv]
       exact qjO
     · have b2:¬ (c.toNat:Int)≤122:=by omega
       have b3:(65:Int)≤(c.toNat:Int):=by omega
       have b4:¬ (c.toNat:Int)≤90:=by omega
       exact qoA
   · have b1:¬ (97:Int)≤(c.toNat:Int):=by omega
     by_cases a3:65≤c.toNat
     · have b3:(65:Int)≤(c.toNat:Int):=by omega
       by_cases a4:c.toNat≤90
       · have b4:(c.toNat:Int)≤90:=by omega
         have hv:jb c=true:=by simp[jb,a3,a4]
         rw[hv]
         exact qjO
       · have b4:¬ (c.toNat:Int)≤90:=by omega
         by_cases a5:c.toNat=95
         · have b5:(c.toNat:Int)=95:=by omega
           have hv:jb c=true:=by simp[jb,a5]
           rw[hv]
           exact qjO
         · exact qoA
     · have b3:¬ (65:Int)≤(c.toNat:Int):=by omega
       exact qoA
 · have hlt2:¬ (i:Int)<(s.size:Int):=by omega
   rw[qa6 (by show s.size≤i;omega)]
   exact qjO
theorem qaN (s:ByteArray) (i:Nat) (w:World) (hs:s.size≤9223372036854775807) (hi:i≤9223372036854775807) :
  Calls Tryz.prog 61 #[.string s,.int .i64 (i:Int)] w fun e w'=>e = .returned (.bool (atB qf s.data.toList i))∧w'=w:=by
 by_cases hlt:i<s.size
 · rw[qbw hlt]
   obtain⟨c,hc⟩:∃ c,s[i]=c:=⟨_,rfl⟩
   rw[hc]
   have hlt2:(i:Int)<(s.size:Int):=by omega
   by_cases a1:48≤c.toNat
   · have b1:(48:Int)≤(c.toNat:Int):=by omega
     by_cases a2:c.toNat≤57
     · have b2:(c.toNat:Int)≤57:=by omega
       have hv:qf c=true:=by simp[qf,a1,a2]
       rw[hv]
       exact qk4
     · have b2:¬ (c.toNat:Int)≤57:=by omega
       have hv:qf c=false:=by simp[qf];omega
       rw[hv]
       exact qk4
   · have b1:¬ (48:Int)≤(c.toNat:Int):=by omega
     have hv:qf c=false:=by simp[qf];omega
     rw[hv]
     exact qk4
 · have hlt2:¬ (i:Int)<(s.size:Int):=by omega
   rw[qa6 (by show s.size≤i;omega)]
   exact qk4
theorem ris (s:ByteArray) (i:Nat) (x:UInt8) (w:World) (hs:s.size≤9223372036854775807) (hi:i≤9223372036854775807) :
  Calls Tryz.prog 107 #[.string s,.int .i64 (i:Int),.int .u8 (x.toNat:Int)] w fun e w'=>e = .returned (.bool (atB (· == x) s.data.toList i))∧w'=w:=by
 by_cases hlt:i<s.size
 · rw[qbw hlt]
   obtain⟨c,hc⟩:∃ c,s[i]=c:=⟨_,rfl⟩
   rw[hc]
   have hlt2:(i:Int)<(s.size:Int):=by omega
   by_cases h:c=x
   · subst h
     have b1:(c == c)=true:=by simp
     rw[b1]
     exact qpv
   · have b1:(c == x)=false:=by simpa using h
     have b2:((c.toNat:Int) == (x.toNat:Int))=false:=beq_eq_false_iff_ne.2 (fun e=>h (UInt8.toNat_inj.1 zxo))
     rw[b1]
     exact qpv
 · have hlt2:¬ (i:Int)<(s.size:Int):=by omega
   rw[qa6 (by show s.size≤i;omega)]
   exact qpv
def qn (l:BL):ByteArray:=⟨l.toArray⟩
theorem qj (l:BL):(qn l).data.toList=l:=by simp[qn]
theorem jE (s:ByteArray):qn s.data.toList=s:=by cases s;simp[qn]
def jp (l:List BL) (x:BL):Bool:=l.contains x
theorem JQ (l:List BL) (x:ByteArray):Lib.containsS (l.map qn) x=jp l x.data.toList:=by
 unfold jp
 rw[Bool.eq_iff_iff,Lib.containsS_iff,List.contains_iff_mem]
 constructor
 · intro h
   obtain⟨y,hy,e⟩:=List.mem_map.1 h
   rw[← e,qj];exact hy
 · intro h
   exact List.mem_map.2 ⟨_,h,jE x⟩
theorem qcJ (l:List BL) (w:World) (b:Nat) (h:w.heap[b]?=some (.cells (l.map fun l=>Value.string ⟨l.toArray⟩).toArray 9 (0,0))):∀ j,j<(l.map qn).length→w.cell? ⟨b,0+j,none⟩=some (.string ((l.map qn).getD j ByteArray.empty)):=fun j hj=>by
 rw[cell_of_row _ _ _ _ _ _ h,Nat.zero_add]
 rw[List.length_map] at hj
 rw[List.getElem?_toArray,List.getElem?_map,List.getElem?_eq_getElem hj,List.getD_eq_getElem?_getD,List.getElem?_map,List.getElem?_eq_getElem hj]
 rfl
theorem qd4 (s:ByteArray) (w:World):Calls Tryz.prog 89 #[.string s] w fun e w'=>e = .returned (.bool (jp resW s.data.toList))∧Below w.heap.size w w':=by
 have HW:=zxi (qtf w)
 have hb:(w.alloc (.cells (resW.map fun l=>Value.string ⟨l.toArray⟩).toArray 9)).heap[w.heap.size]?=some (.cells (resW.map fun l=>Value.string ⟨l.toArray⟩).toArray 9 (0,0)):=heap_alloc_new w _
 have hc:=Tryz.slices_Contains_string w.heap.size 0 21 21 (resW.map qn) s (w.alloc (.cells (resW.map fun l=>Value.string ⟨l.toArray⟩).toArray 9)) zxd zxd (qcJ resW _ _ hb)
 rw[show(resW.map qn).take 21=resW.map qn from List.take_of_length_le zxd,JQ] at hc
 have HC:=zxi hc
 have HB:=zxi ((Below.refl w.heap.size w).alloc zxn (.cells (resW.map fun l=>Value.string ⟨l.toArray⟩).toArray 9))
 clear hb hc
 go_enter Tryz.func89,Tryz.ntmps89
 go_wp2_with (first
  | (go_at_call 104;refine HW.out.mono ?_;rintro e w' ⟨rfl,rfl⟩)
  | (go_at_call 103;refine HC.out.mono ?_;rintro e w' ⟨rfl,rfl⟩))
 go_ret
 exact⟨rfl,HB.out⟩
theorem qwH (l:List BL) (b off c:Nat) (s:ByteArray) (w:World) (hl:l.length≤1000) (h:∀ j x,l[j]?=some x→w.cell? ⟨b,off+j,none⟩=some (.string (qn x))) :
  Calls Tryz.prog 75 #[.slice (some ⟨b,off,none⟩) l.length c,.string s] w fun e w'=>e = .returned (.bool (jp l s.data.toList))∧∃ q,w'=w.drewN q:=by
 have HH:=zxi h
 clear h
 go_enter Tryz.func75,Tryz.ntmps75
 exact qwz
theorem Js (l:List BL) (w:World):∀ j x,l[j]?=some x→(w.alloc (.cells (l.map fun l=>Value.string ⟨l.toArray⟩).toArray 9)).cell? ⟨w.heap.size,0+j,none⟩=some (.string (qn x)):=fun j x hx=>by
 rw[cell_of_row _ _ _ _ _ _ (heap_alloc_new w _),Nat.zero_add,List.getElem?_toArray,List.getElem?_map,hx];rfl
theorem qdF (s:ByteArray) (w:World):Calls Tryz.prog 60 #[.string s] w fun e w'=>e = .returned (.bool (jp resW s.data.toList))∧Below w.heap.size w w':=by
 have HC:=zxi (qwH resW w.heap.size 0 21 s _ zxd (Js resW w))
 have HB:=zxi ((Below.refl w.heap.size w).alloc zxn (.cells (resW.map fun l=>Value.string ⟨l.toArray⟩).toArray 9))
 go_enter Tryz.func60,Tryz.ntmps60
 go_wp2_with (first
  | (go_at_call 75;refine HC.out.mono ?_;rintro e w' ⟨rfl,q,rfl⟩))
 go_ret
 exact⟨rfl,qQ HB.out q⟩
def qc (L:BL):Bool := !L.isEmpty&&decide (qp L=L.length)&&decide (L.length≤40) && !decide (L=[95]) && !jp resW L
theorem qfQ (s:ByteArray):(s.toList=[95])↔s.data.toList=[95]:=by rw[ByteArray.toList_eq]
theorem qs4 (s:ByteArray) (w:World) (hs:s.size≤9223372036854775807) :
  Calls Tryz.prog 73 #[.string s] w fun e w'=>e = .returned (.bool (qc s.data.toList))∧Below w.heap.size w w':=by
 have hsz:s.data.toList.length=s.size:=rfl
 by_cases h0:0<s.size
 · have t1:=Jm h0
   have t3:s.toList.isEmpty=false:=by simpa using t1
   have t4:s.data.toList.isEmpty=false:=by rw[← ByteArray.toList_eq];exact t3
   have HS:=zxi (qdR s w hs)
   have HRV:=zxi (fun w=>qd4 s w)
   obtain⟨n,hn⟩:∃ n,qp s.data.toList=n:=⟨_,rfl⟩
   rw[hn] at HS
   by_cases a1:n=s.size
   · have b1:((n:Int) == (s.size:Int))=true:=beq_iff_eq.2 zxo
     by_cases a2:s.size≤40
     · have b2:(s.size:Int)≤40:=by omega
       by_cases a3:s.data.toList=[95]
       · have b3:s.toList=[95]:=(qfQ s).2 a3
         have hv:qc s.data.toList=false:=by simp[qc,a3]
         have HV:=zxi hv
         have b4:(s.toList == [95])=true:=by rw[b3];rfl
         clear hv a3 t4 hsz hn a1
         exact qov
       · have b3:¬ s.toList=[95]:=fun e=>a3 ((qfQ s).1 e)
         have b4:(s.toList == [95])=false:=by simpa using b3
         have hv:qc s.data.toList = !jp resW s.data.toList:=by simp only[qc,t4,hn,hsz];simp[a1,a2,a3]
         have HV:=zxi hv
         clear hv a3 t4 hsz hn a1
         go_enter Tryz.func73,Tryz.ntmps73
         go_wp2_with (first | (go_at_call 88;refine HS.out.mono ?_;rintro e w' ⟨rfl,hb⟩) | (go_at_call 89;refine(HRV.out _).mono ?_;rintro e w2 ⟨rfl,hb2⟩))
         go_ret
         exact⟨qi HV.out.symm,qa hb hb2⟩
     · have b2:¬ (s.size:Int)≤40:=by omega
       have hv:qc s.data.toList=false:=by simp only[qc,hsz];simp;omega
       have HV:=zxi hv
       clear hv t4 hsz hn a1
       exact qov
   · have b1:((n:Int) == (s.size:Int))=false:=beq_eq_false_iff_ne.2 zxo
     have hv:qc s.data.toList=false:=by simp only[qc,hn,hsz];simp[a1]
     have HV:=zxi hv
     clear hv t4 hsz hn a1
     exact qov
 · have hz:s.size=0:=by omega
   have t1:=Qu hz
   have t3:s.toList.isEmpty=true:=by rw[t1];rfl
   have hd:s.data.toList=[]:=List.eq_nil_of_length_eq_zero hz
   have HV:=zxi (show qc s.data.toList=false by rw[hd];rfl)
   clear hd
   go_enter Tryz.func73,Tryz.ntmps73
   go_wp2_with fail
   exact qnM
theorem qde {p:UInt8→Bool}:∀ {l:BL},(∀ c∈l,p c=true)→(l.takeWhile p).length=l.length
 | [],_=>rfl
 | c::l,h=>by
  have ih:=qde (l:=l) (fun x hx=>h x (List.mem_cons_of_mem _ hx))
  rw[List.takeWhile_cons,h c zxs]
  simp only[if_true,List.length_cons,ih]
theorem qhG {p:UInt8→Bool} {l:BL} {j:Nat} {c:UInt8} (hc:l[j]?=some c) (h:p c=false):(l.takeWhile p).length≤j:=by
 induction l generalizing j with
 | nil=>simp
 | cons x l ih =>
  cases j with
  | zero=>simp at hc;subst hc;simp[h]
  | succ j =>
   simp at hc
   rw[List.takeWhile_cons]
   split
   · simp;exact ih hc
   · simp
theorem qh0 {s:ByteArray} {c:UInt8} {r:BL} (hd:s.data.toList=c::r) (hL:jb c=true):qp s.data.toList=(s.data.toList.takeWhile Jr).length:=by
 rw[hd];exact if_pos hL
theorem qgd {s:ByteArray} {c:UInt8} {r:BL} (hd:s.data.toList=c::r) (hL:jb c=false):qp s.data.toList=0:=by
 rw[hd];exact if_neg (by rw[hL];exact Bool.false_ne_true)
theorem qfZ (s:ByteArray) (w:World) (hs:s.size≤9223372036854775807) :
  Calls Tryz.prog 44 #[.string s] w fun e w'=>e = .returned (.bool (qc s.data.toList))∧Below w.heap.size w w':=by
 have hsz:s.data.toList.length=s.size:=rfl
 have HL:=zxi (fun i w hi=>JO s i w hs hi)
 have HD:=zxi (fun i w hi=>qaN s i w hs hi)
 have HR:=zxi (fun w=>qdF s w)
 have HL0:=zxi (JO s 0 w hs zxo)
 by_cases h0:0<s.size
 · obtain⟨c,r,hd,hc⟩:=qau h0
   have hat:atB jb s.data.toList 0=jb c:=by rw[qbw h0,hc]
   rw[hat] at HL0
   cases hC:jb c with
   | false =>
    have HV:=zxi (show qc s.data.toList=false by
     have:=qgd hd hC
     simp only[qc,this,hsz];simp;omega)
    rw[hC] at HL0
    clear hd hat hC hsz
    exact qkb
   | true =>
    rw[hC] at HL0
    by_cases a2:s.size≤40
    · have b2:¬ (40:Int)<(s.size:Int):=by omega
      have t4:s.data.toList.isEmpty=false:=by rw[hd];rfl
      have hsp:=qh0 hd hC
      by_cases a3:s.data.toList=[95]
      · have b3:s.toList=[95]:=(qfQ s).2 a3
        have HV:=zxi (show qc s.data.toList=false by simp[qc,a3])
        have b4:(s.toList == [95])=true:=by rw[b3];rfl
        clear hd hat hC hsz a3 t4 hsp
        exact qkb
      · have b3:¬ s.toList=[95]:=fun e=>a3 ((qfQ s).1 e)
        have b4:(s.toList == [95])=false:=by simpa using b3
        cases hR:jp resW s.data.toList with
        | true =>
         rw[hR] at HR
         have HV:=zxi (show qc s.data.toList=false by simp[qc,hR])
         clear hd hat hC hsz a3 t4 hsp hR
         go_enter Tryz.func44,Tryz.ntmps44
         go_wp2_with (first | (go_at_call 59;refine HL0.out.mono ?_;rintro e w' ⟨rfl,rfl⟩) | (go_at_call 60;refine(HR.out _).mono ?_;rintro e w2 ⟨rfl,hb2⟩))
         go_ret
         exact⟨qi HV.out.symm,hb2⟩
        | false =>
         rw[hR] at HR
         have hv:qc s.data.toList=decide ((s.data.toList.takeWhile Jr).length=s.size):=by
          simp only[qc,t4,hsp,hsz,hR];simp[a2,a3]
         have HV:=zxi hv
         clear hd hat hC hsz a3 t4 hsp hR hv
         go_enter Tryz.func44,Tryz.ntmps44
         go_wp2_with (first | (go_at_call 59;refine HL0.out.mono ?_;rintro e w' ⟨rfl,rfl⟩) | (go_at_call 60;refine(HR.out _).mono ?_;rintro e w2 ⟨rfl,hb2⟩))
         have HB2:=zxi hb2
         clear hb2
         go_loopw [3] (fun i wr=>∃ j:Nat,j≤s.size∧i = .int .i64 j∧(∀ c∈s.data.toList.take j,Jr c=true)∧wr=w2) (fun i _=>s.size-(intOf i).toNat)
         case atStart=>exact⟨0,Nat.zero_le _,rfl,fun c hc=>by simp at hc,rfl⟩
         case round =>
          obtain⟨j,hj,rfl,hall,rfl⟩:=hrel
          have HA:=zxi hall
          clear hall
          by_cases hlt:j<s.size
          · have hlt2:(j:Int)<(s.size:Int):=by omega
            obtain⟨x,hx⟩:∃ x,s[j]=x:=⟨_,rfl⟩
            have h1:=HL.out j wr zxo
            have h2:=HD.out j wr zxo
            rw[qbw hlt,hx] at h1 h2
            have hgx:s.data.toList[j]?=some x:=by
             rw[List.getElem?_eq_getElem (by show j<s.size;exact hlt)];exact congrArg some hx
            have H1:=zxi h1
            have H2:=zxi h2
            have HG:=zxi hgx
            clear h1 h2 hgx hx
            cases hxL:jb x with
            | true =>
             rw[hxL] at H1
             have HX:=zxi (show Jr x=true by simp[Jr,hxL])
             clear hxL
             go_wp2_with (first | (go_at_call 59;refine H1.out.mono ?_;rintro e w' ⟨rfl,rfl⟩))
             exact qqn
            | false =>
             rw[hxL] at H1
             cases hxD:qf x with
             | true =>
              rw[hxD] at H2
              have HX:=zxi (show Jr x=true by simp[Jr,hxD])
              clear hxL hxD
              go_wp2_with (first | (go_at_call 59;refine H1.out.mono ?_;rintro e w' ⟨rfl,rfl⟩) | (go_at_call 61;refine H2.out.mono ?_;rintro e w' ⟨rfl,rfl⟩))
              exact qqn
             | false =>
              rw[hxD] at H2
              have HX:=zxi (show Jr x=false by simp[Jr,hxL,hxD])
              clear hxL hxD
              have hvv:qc s.data.toList=false:=by
               rw[HV.out]
               have:=qhG HG.out HX.out
               simp;omega
              have HVV:=zxi hvv
              clear hvv
              go_wp2_with (first | (go_at_call 59;refine H1.out.mono ?_;rintro e w' ⟨rfl,rfl⟩) | (go_at_call 61;refine H2.out.mono ?_;rintro e w' ⟨rfl,rfl⟩))
              go_ret
              exact⟨qi HVV.out.symm,HB2.out⟩
          · have hke:j=s.size:=by omega
            have hvv:qc s.data.toList=true:=by
             rw[HV.out]
             have h1:=HA.out
             rw[List.take_of_length_le (by show s.size≤j;omega)] at h1
             have:=qde h1
             simp;exact this
            have HVV:=zxi hvv
            clear hvv
            go_wp2_with fail
            go_ret
            exact⟨qi HVV.out.symm,HB2.out⟩
    · have b2:(40:Int)<(s.size:Int):=by omega
      have HV:=zxi (show qc s.data.toList=false by simp only[qc,hsz];simp;omega)
      clear hd hat hC hsz
      exact qkb
 · have hz:s.size=0:=by omega
   have hd:s.data.toList=[]:=List.eq_nil_of_length_eq_zero hz
   have HV:=zxi (show qc s.data.toList=false by rw[hd];rfl)
   rw[show atB jb s.data.toList 0=false from qa6 (by rw[hd];simp)] at HL0
   clear hd hsz
   exact qkb
end Go.Proofs.YtacdfjlncfidgaaGreatDoor
