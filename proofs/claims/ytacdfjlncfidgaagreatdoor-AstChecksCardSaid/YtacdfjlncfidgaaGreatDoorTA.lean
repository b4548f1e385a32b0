/- A part of what the claim leans on. -/
import Derived.Test.YtacdfjlncfidgaaGreatDoorQS
import Derived.Test.YtacdfjlncfidgaaGreatDoorRA
import Derived.Test.YtacdfjlncfidgaaGreatDoorRE
import Derived.ProofKit
import Derived.OpenShut
import Derived.Deep.Slices
namespace Go.Proofs.YtacdfjlncfidgaaGreatDoor
open Go.RowKit
set_option linter.unusedVariables false
set_option linter.unusedSimpArgs false
set_option maxRecDepth 1000000
inductive Tree where
 | mk (kind fr en at_:Int) (name:BL) (kids:List Tree)
namespace Tree
def kind:Tree→Int | mk k _ _ _ _ _=>k
def name:Tree→BL | mk _ _ _ _ n _=>n
def kids:Tree→List Tree | mk _ _ _ _ _ l=>l
end Tree
section
variable (nm:BL→Bool) (tok:BL→Int→Bool)
def levW:List (List BL):=[[[124,124]],[[38,38]],[[61,61],[33,61],[60],[60,61],[62],[62,61]],[[43],[45]],[[42],[47],[37]]]
def jV (op:BL):Nat:=match levW.findIdx? (fun l=>l.contains op) with | some i=>i+1 | none=>0
def builtW:List BL:=[[105,110,116],[102,108,111,97,116,54,52],[108,101,110],[112,114,105,110,116],[112,97,110,105,99]]
def basicW:List BL:=[[105,110,116],[98,111,111,108],[115,116,114,105,110,103],[102,108,111,97,116,54,52]]
def qa3:BL:=[116,114,117,101]
def Jf:BL:=[102,97,108,115,101]
def QC:BL:=[112,114,105,110,116]
def Qz:BL:=[112,97,110,105,99]
def qK (t:Tree) (need:Nat):Bool :=
 if t.kind=1∨t.kind=2∨t.kind=3∨t.kind=4∨t.kind=5∨t.kind=7∨t.kind=9∨t.kind=11∨t.kind=12∨t.kind=16∨t.kind=25∨t.kind=26∨t.kind=29 then nm t.name
 else if t.kind=8 then nm t.name||(decide (need=8)&&basicW.contains t.name)
 else if t.kind=17∨t.kind=18 then t.name.isEmpty||nm t.name
 else if t.kind=21 then tok t.name 3 else if t.kind=22 then tok t.name 4 else if t.kind=23 then tok t.name 5
 else if t.kind=24 then decide (t.name=qa3)||decide (t.name=Jf)
 else if t.kind=30 then decide (t.name=[45])||decide (t.name=[33])
 else if t.kind=31 then decide (0<jV t.name)
 else if t.kind=32 then builtW.contains t.name
 else t.name.isEmpty
def qc1:List Int:=[21,22,23,24,25,26,27,28,30,31,32,33]
def qL (need:Nat):List Int:=if 100<need then qc1 else match need with
 | 0=>[0] | 1=>[2] | 2=>[3,5] | 3=>[4] | 4=>[7] | 5=>[7] | 6=>[6] | 7=>[8] | 8=>[8,9] | 9=>[8,9] | 10=>[10]
 | 11=>[11,10,14,15,16,17,18,19,12,13,20] | 12=>[14] | 13=>[15] | 14=>[12] | 15=>[13,20] | 16=>[25,26] | 20=>[25,26] | 17=>[25] | 18=>[27,32] | 19=>[29]
 | _=>qc1
def j8 (k:Int) (head:Bool):Nat→List Tree→List (List Nat)
 | _,[]=>[]
 | i,_::l=>(if k=3 then [3] else if k=6 then [4] else if k=10 then [11] else if k=32 then [101] else if k=27 then (if i=0 then [if head then 1020 else 20] else [101]) else [if i=0 then 9 else 19])::j8 k head (i+1) l
def qbP:Bool→List Tree→List (List Nat)
 | _,[]=>[]
 | b,t::l=>(if b&&decide (t.kind=2) then [1] else [2])::qbP (b&&decide (t.kind=2)) l
def qmo:List Tree→Bool
 | [a,b]=>decide (a.kind≠0)||decide (b.kind≠0)
 | _=>false
def jh (t:Tree) (need:Nat) (head:Bool):List (List Nat)×Bool :=
 let up:=if head then 201 else 101
 if t.kind=4∨t.kind=7 then (if need=5 then ([[7]],true) else ([[8]],true))
 else if t.kind=5 then ([[5,0],[6],[8,0],[10]],true)
 else if t.kind=9 then ([[17]],true)
 else if t.kind=11 then ([[8,0],[101,0]],qmo t.kids)
 else if t.kind=12 then ([[up]],true)
 else if t.kind=13 then ([[16],[up]],true)
 else if t.kind=14 then ([[201],[10],[0,12,10]],true)
 else if t.kind=15 then ([[1014,1015,0],[201,0],[1015,0],[10]],true)
 else if t.kind=16 then ([[13]],true)
 else if t.kind=19 then (if t.kids.isEmpty then ([],true) else ([[101]],true))
 else if t.kind=20 then ([[if head then 1018 else 18]],true)
 else if t.kind=26 then (if need=16 then ([[16]],true) else ([[up+6]],true))
 else if t.kind=30 then ([[up+5]],true)
 else if t.kind=31 then ([[up+(jV t.name-1)],[up+jV t.name]],true)
 else if t.kind=29∨t.kind=33 then ([[101]],true)
 else if t.kind=1 then (qbP true t.kids,true)
 else if t.kind=3∨t.kind=6∨t.kind=10∨t.kind=32∨t.kind=27∨t.kind=28 then (j8 t.kind head 0 t.kids,(decide (t.kind≠27)&&decide (t.kind≠28)) || !t.kids.isEmpty)
 else ([],true)
def QP (t:Tree) (need:Nat) (head:Bool) (jz:Nat):Bool :=
 (qL need).contains t.kind&&qK nm tok t need && !(decide (t.kind=31)&&decide (jV t.name<jz)) && !(decide (t.kind=30)&&decide (6<jz)) && !(decide (t.kind=28)&&head) &&
  !(decide (need=18)&&decide (t.kind=32) && !decide (t.name=QC) && !decide (t.name=Qz))&&(jh t need head).2
def qJ (n:Nat):Nat×Bool×Nat :=
 let m:=if 1000≤n then n-1000 else n
 (m,decide (1000≤n)||decide (201≤m),if 201≤m then m-200 else if 101≤m then m-100 else 0)
mutual
def isR:Tree→Nat→Bool
 | .mk k f t a n l,need =>
  QP nm tok (.mk k f t a n l) (qJ need).1 (qJ need).2.1 (qJ need).2.2&&JB l (jh (.mk k f t a n l) (qJ need).1 (qJ need).2.1).1
def JB:List Tree→List (List Nat)→Bool
 | [],[]=>true
 | t::l,r::rs=>qj1 t r&&JB l rs
 | _,_=>false
def qj1:Tree→List Nat→Bool
 | _,[]=>false
 | .mk k f t a n l,d::r=>isR (.mk k f t a n l) d||qj1 (.mk k f t a n l) r
end
end
section
variable (nm:BL→Bool) (tok:BL→Int→Bool)
theorem qT (k f t a:Int) (n:BL) (l:List Tree) (need:Nat):isR nm tok (.mk k f t a n l) need =
  (QP nm tok (.mk k f t a n l) (qJ need).1 (qJ need).2.1 (qJ need).2.2&&JB nm tok l (jh (.mk k f t a n l) (qJ need).1 (qJ need).2.1).1):=by
 rw[isR]
def qbK (nm:BL→Bool) (tok:BL→Int→Bool) (r:List Nat) (t:Tree):Bool:=r.any (fun d=>isR nm tok t d)
theorem qes (t:Tree):∀ r,qj1 nm tok t r=qbK nm tok r t
 | []=>by cases t;simp[qj1,qbK]
 | d::r=>by
  have ih:=qes t r
  cases t
  rw[qj1,ih];rfl
def qx:List (Tree→Bool)→List Tree→Bool
 | [],[]=>true
 | p::ps,t::l=>p t&&qx ps l
 | _,_=>false
theorem qF:∀ (l:List Tree) (rs:List (List Nat)),JB nm tok l rs=qx (rs.map (qbK nm tok)) l
 | [],[]=>by simp[JB,qx]
 | [],r::rs=>by simp[JB,qx]
 | t::l,[]=>by simp[JB,qx]
 | t::l,r::rs=>by rw[JB,qes,qF l rs];rfl
theorem qN (l:List Tree):qx [] l=l.isEmpty:=by cases l<;>rfl
theorem qbJ (d:Nat):qbK nm tok [d]=fun t=>isR nm tok t d:=by funext t;simp[qbK]
theorem jm (p:Tree→Bool):∀ l:List Tree,qx (List.replicate l.length p) l=l.all p
 | []=>rfl
 | t::l=>by rw[List.length_cons,List.replicate_succ,qx,jm p l];rfl
theorem Q0 (k:Int) (head:Bool) (r:List Nat) (h:∀ i,(if k=3 then [3] else if k=6 then [4] else if k=10 then [11] else if k=32 then [101] else if k=27 then (if i=0 then [if head then 1020 else 20] else [101]) else [if i=0 then 9 else 19])=r) :
  ∀ (l:List Tree) (i:Nat),j8 k head i l=List.replicate l.length r
 | [],i=>rfl
 | t::l,i=>by rw[j8,h i,Q0 k head r h l (i+1)];rfl
theorem Jp (k:Int) (head:Bool) (r:List Nat) (h:∀ i,0<i→(if k=3 then [3] else if k=6 then [4] else if k=10 then [11] else if k=32 then [101] else if k=27 then (if i=0 then [if head then 1020 else 20] else [101]) else [if i=0 then 9 else 19])=r) :
  ∀ (l:List Tree) (i:Nat),0<i→j8 k head i l=List.replicate l.length r
 | [],i,_=>rfl
 | t::l,i,hi=>by rw[j8,h i hi,Jp k head r h l (i+1) zxo];rfl
section
variable (k f t a:Int) (n:BL) (l:List Tree)
theorem qtQ:isR nm tok (.mk k f t a n l) 0=(decide (k=0)&&n.isEmpty&&l.isEmpty):=by
 rw[qT,qF]
 by_cases h:k=0
 · exact qgG
 · exact qag
theorem qih:isR nm tok (.mk k f t a n l) 17=(decide (k=25)&&nm n&&l.isEmpty):=by
 rw[qT,qF]
 by_cases h:k=25
 · exact qgG
 · exact qag
theorem qn6:isR nm tok (.mk k f t a n l) 7=(decide (k=8)&&nm n&&l.isEmpty):=by
 rw[qT,qF]
 by_cases h:k=8
 · exact qgG
 · exact qag
theorem qvV:isR nm tok (.mk k f t a n l) 9=(isR nm tok (.mk k f t a n l) 7||(decide (k=9)&&nm n&&qx [fun t=>isR nm tok t 17] l)):=by
 rw[qn6,qT,qF]
 by_cases h:k=8
 · exact qgG
 by_cases h9:k=9
 · exact qii
 · exact qef
theorem qvA:isR nm tok (.mk k f t a n l) 8=(isR nm tok (.mk k f t a n l) 7||(decide (k=9)&&nm n&&qx [fun t=>isR nm tok t 17] l)||(basicW.contains n&&decide (k=8)&&l.isEmpty)):=by
 rw[qn6,qT,qF]
 by_cases h:k=8
 · subst h;simp[QP,qJ,qL,qK,jh,Tree.kind,Tree.name,Tree.kids,qN]
   cases nm n<;>cases l.isEmpty<;>simp
 by_cases h9:k=9
 · exact qii
 · exact qef
theorem qvz:isR nm tok (.mk k f t a n l) 3=(nm n&&decide (k=4)&&qx [fun t=>isR nm tok t 8] l):=by
 rw[qT,qF]
 by_cases h:k=4
 · exact qcK
 · exact qag
theorem qwf:isR nm tok (.mk k f t a n l) 4=(nm n&&decide (k=7)&&qx [fun t=>isR nm tok t 8] l):=by
 rw[qT,qF]
 by_cases h:k=7
 · exact qcK
 · exact qag
theorem quN:isR nm tok (.mk k f t a n l) 5=(nm n&&decide (k=7)&&qx [fun t=>isR nm tok t 7] l):=by
 rw[qT,qF]
 by_cases h:k=7
 · exact qcK
 · exact qag
theorem qvK:isR nm tok (.mk k f t a n l) 6=(n.isEmpty&&decide (k=6)&&l.all (fun t=>isR nm tok t 4)):=by
 rw[qT,qF]
 by_cases h:k=6
 · subst h;simp[QP,qJ,qL,qK,jh,Tree.kind,Tree.name,Tree.kids]
   rw[Q0 6 false [4] (fun i=>by simp),List.map_replicate,qbJ,jm]
 · exact qag
theorem quq:isR nm tok (.mk k f t a n l) 10=(n.isEmpty&&decide (k=10)&&l.all (fun t=>isR nm tok t 11)):=by
 rw[qT,qF]
 by_cases h:k=10
 · subst h;simp[QP,qJ,qL,qK,jh,Tree.kind,Tree.name,Tree.kids]
   rw[Q0 10 false [11] (fun i=>by simp),List.map_replicate,qbJ,jm]
 · exact qag
theorem qu2:isR nm tok (.mk k f t a n l) 2=((nm n&&decide (k=3)&&l.all (fun t=>isR nm tok t 3))||(nm n&&decide (k=5)&&qx [qbK nm tok [5,0],fun t=>isR nm tok t 6,qbK nm tok [8,0],fun t=>isR nm tok t 10] l)):=by
 rw[qT,qF]
 by_cases h:k=3
 · subst h;simp[QP,qJ,qL,qK,jh,Tree.kind,Tree.name,Tree.kids]
   rw[Q0 3 false [3] (fun i=>by simp),List.map_replicate,qbJ,jm]
 by_cases h9:k=5
 · exact qii
 · exact qef
theorem qqA:isR nm tok (.mk k f t a n l) 12=(n.isEmpty&&decide (k=14)&&qx [fun t=>isR nm tok t 201,fun t=>isR nm tok t 10,qbK nm tok [0,12,10]] l):=by
 rw[qT,qF]
 by_cases h:k=14
 · exact qcK
 · exact qag
theorem qr5:isR nm tok (.mk k f t a n l) 13=(n.isEmpty&&decide (k=15)&&qx [qbK nm tok [1014,1015,0],qbK nm tok [201,0],qbK nm tok [1015,0],fun t=>isR nm tok t 10] l):=by
 rw[qT,qF]
 by_cases h:k=15
 · exact qcK
 · exact qag
theorem qju:isR nm tok (.mk k f t a n l) 14=(nm n&&decide (k=12)&&qx [fun t=>isR nm tok t 101] l):=by
 rw[qT,qF]
 by_cases h:k=12
 · exact qcK
 · exact qag
theorem qlC:isR nm tok (.mk k f t a n l) 1014=(nm n&&decide (k=12)&&qx [fun t=>isR nm tok t 201] l):=by
 rw[qT,qF]
 by_cases h:k=12
 · exact qcK
 · exact qag
theorem qjq:isR nm tok (.mk k f t a n l) 15=((n.isEmpty&&decide (k=13)&&qx [fun t=>isR nm tok t 16,fun t=>isR nm tok t 101] l)||(n.isEmpty&&decide (k=20)&&qx [fun t=>isR nm tok t 18] l)):=by
 exact qqe
theorem qky:isR nm tok (.mk k f t a n l) 1015=((n.isEmpty&&decide (k=13)&&qx [fun t=>isR nm tok t 16,fun t=>isR nm tok t 201] l)||(n.isEmpty&&decide (k=20)&&qx [fun t=>isR nm tok t 1018] l)):=by
 exact qqe
theorem qsU:isR nm tok (.mk k f t a n l) 16=(isR nm tok (.mk k f t a n l) 17||(nm n&&decide (k=26)&&qx [fun t=>isR nm tok t 16] l)):=by
 rw[qih,qT,qF]
 by_cases h:k=25
 · exact qgG
 by_cases h9:k=26
 · exact qii
 · exact qef
theorem qqB:isR nm tok (.mk k f t a n l) 19=(nm n&&decide (k=29)&&qx [fun t=>isR nm tok t 101] l):=by
 rw[qT,qF]
 by_cases h:k=29
 · exact qcK
 · exact qag
end
end
section
variable (nm:BL→Bool) (tok:BL→Int→Bool)
def eC (c:Nat) (head:Bool):Nat:=if head then 200+c else 100+c
def QX (k:Int) (n:BL) (l:List Tree) (c:Nat) (head:Bool):Bool :=
 if k=31 then decide (c≤jV n)&&decide (0<jV n)&&qx [fun t=>isR nm tok t (eC (jV n) head),fun t=>isR nm tok t (eC (jV n+1) head)] l
 else if k=30 then decide (c≤6)&&(decide (n=[45])||decide (n=[33]))&&qx [fun t=>isR nm tok t (eC 6 head)] l
 else if k=21 then tok n 3&&l.isEmpty
 else if k=22 then tok n 4&&l.isEmpty
 else if k=23 then tok n 5&&l.isEmpty
 else if k=24 then (decide (n=qa3)||decide (n=Jf))&&l.isEmpty
 else if k=25 then nm n&&l.isEmpty
 else if k=33 then n.isEmpty&&qx [fun t=>isR nm tok t 101] l
 else if k=26 then nm n&&qx [fun t=>isR nm tok t (eC 7 head)] l
 else if k=32 then builtW.contains n&&l.all (fun t=>isR nm tok t 101)
 else if k=27 then n.isEmpty&&(match l with | []=>false | x::r=>isR nm tok x (if head then 1020 else 20)&&r.all (fun t=>isR nm tok t 101))
 else if k=28 then n.isEmpty && !head&&(match l with | []=>false | x::r=>isR nm tok x 9&&r.all (fun t=>isR nm tok t 19))
 else false
theorem qsT (c:Nat) (head:Bool) (h1:1≤c) (h7:c≤99):qJ (eC c head)=(eC c head,head,c):=by
 unfold qJ eC
 cases head with
 | true=>simp only[if_true];rw[if_neg zxo];simp only[Prod.mk.injEq,true_and];refine⟨by simp;omega,by rw[if_pos zxo];omega⟩
 | false=>simp only[Bool.false_eq_true,if_false];rw[if_neg zxo];simp only[Prod.mk.injEq,true_and];refine⟨by simp;omega,by rw[if_neg zxo,if_pos zxo];omega⟩
theorem Qa (c:Nat) (head:Bool) (h1:1≤c):qL (eC c head)=qc1:=by
 unfold qL;rw[if_pos (by unfold eC;split<;>omega)]
theorem qu8 (c:Nat) (head:Bool) (h1:1≤c) (d:Nat) (hd:d≤100):eC c head≠d:=by unfold eC;split<;>omega
theorem qpZ (n:BL):jV n≤5:=by
 unfold jV
 split
 · rename_i i h
   have:i<levW.length:=by
    have:=List.findIdx?_eq_some_iff_findIdx_eq.1 h
    exact this.1
   have e:levW.length=5:=rfl
   omega
 · omega
section
variable (k f t a:Int) (n:BL) (l:List Tree)
theorem isE (c:Nat) (head:Bool) (h1:1≤c) (h7:c≤7):isR nm tok (.mk k f t a n l) (eC c head)=QX nm tok k n l c head:=by
 have hne:∀ d,d≤100→(eC c head=d)=False:=fun d hd=>eq_false (qu8 c head h1 d hd)
 have hup:(if head=true then 201 else 101)+(jV n-1)=if head=true then 201+(jV n-1) else 101+(jV n-1):=by cases head<;>rfl
 rw[qT,qF,qsT c head h1 zxo]
 unfold QX
 by_cases k31:k=31
 · subst k31
   simp only[QP,Qa c head h1,qc1,qK,jh,Tree.kind,Tree.name,Tree.kids,hne 8 zxo,hne 18 zxo]
   by_cases hl:0<jV n
   · have e1:(if head=true then 201 else 101)+(jV n-1)=eC (jV n) head:=by unfold eC;cases head<;>simp<;>omega
     have e2:(if head=true then 201 else 101)+jV n=eC (jV n+1) head:=by unfold eC;cases head<;>simp<;>omega
     simp[hl,qbJ,e1,e2]
     congr 1
     by_cases hc:c≤jV n
     · simp[hc,Nat.not_lt.2 hc]
     · simp[hc,Nat.lt_of_not_le hc]
   · simp[hl]
 by_cases k30:k=30
 · subst k30
   have e1:(if head=true then 201 else 101)+5=eC 6 head:=by unfold eC;cases head<;>rfl
   simp[QP,Qa c head h1,qc1,qK,jh,Tree.kind,Tree.name,Tree.kids,hne 8 zxo,hne 18 zxo,qbJ,e1]
   by_cases hc:c≤6
   · simp[hc,Nat.not_lt.2 hc]<;>rfl
   · simp[hc,Nat.lt_of_not_le hc]
 by_cases k21:k=21
 · subst k21;simp[QP,Qa c head h1,qc1,qK,jh,Tree.kind,Tree.name,hne 18 zxo,qN]
 by_cases k22:k=22
 · subst k22;simp[QP,Qa c head h1,qc1,qK,jh,Tree.kind,Tree.name,hne 18 zxo,qN]
 by_cases k23:k=23
 · subst k23;simp[QP,Qa c head h1,qc1,qK,jh,Tree.kind,Tree.name,hne 18 zxo,qN]
 by_cases k24:k=24
 · subst k24;simp[QP,Qa c head h1,qc1,qK,jh,Tree.kind,Tree.name,hne 18 zxo,qN]<;>rfl
 by_cases k25:k=25
 · subst k25;simp[QP,Qa c head h1,qc1,qK,jh,Tree.kind,Tree.name,hne 18 zxo,qN]
 by_cases k33:k=33
 · subst k33;simp[QP,Qa c head h1,qc1,qK,jh,Tree.kind,Tree.name,hne 18 zxo,qbJ]
 by_cases k26:k=26
 · subst k26
   have e1:(if head=true then 201 else 101)+6=eC 7 head:=by unfold eC;cases head<;>rfl
   simp[QP,Qa c head h1,qc1,qK,jh,Tree.kind,Tree.name,hne 16 zxo,hne 18 zxo,qbJ,e1]
 by_cases k32:k=32
 · subst k32
   simp[QP,Qa c head h1,qc1,qK,jh,Tree.kind,Tree.name,Tree.kids,hne 18 zxo]
   rw[Q0 32 head [101] (fun i=>by simp),List.map_replicate,qbJ,jm]
 by_cases k27:k=27
 · subst k27
   simp[QP,Qa c head h1,qc1,qK,jh,Tree.kind,Tree.name,Tree.kids,hne 18 zxo]
   cases l with
   | nil=>simp
   | cons x r =>
    have hr:j8 27 head 0 (x::r)=[if head then 1020 else 20]::List.replicate r.length [101]:=by rw[j8,Jp 27 head [101] (fun i hi=>by simp;omega) r (0+1) zxo];rfl
    exact qlj
 by_cases k28:k=28
 · subst k28
   simp[QP,Qa c head h1,qc1,qK,jh,Tree.kind,Tree.name,Tree.kids,hne 18 zxo]
   cases l with
   | nil=>simp
   | cons x r =>
    have hr:j8 28 head 0 (x::r)=[9]::List.replicate r.length [19]:=by rw[j8,Jp 28 head [19] (fun i hi=>by simp;omega) r (0+1) zxo];rfl
    exact qlj
 · simp[QP,Qa c head h1,qc1,Tree.kind,k31,k30,k21,k22,k23,k24,k25,k33,k26,k32,k27,k28]
theorem qsi:isR nm tok (.mk k f t a n l) 18=((decide (k=27)||(decide (k=32)&&(decide (n=QC)||decide (n=Qz))))&&isR nm tok (.mk k f t a n l) (eC 7 false)):=by
 rw[isE nm tok k f t a n l 7 false zxo zxo,qT,qF]
 by_cases h:k=27
 · subst h
   simp[QP,qJ,qL,qK,jh,Tree.kind,Tree.name,Tree.kids,QX]
   cases l with
   | nil=>simp
   | cons x r =>
    have hr:j8 27 false 0 (x::r)=[if false then 1020 else 20]::List.replicate r.length [101]:=by rw[j8,Jp 27 false [101] (fun i hi=>by simp;omega) r (0+1) zxo];rfl
    exact qlj
 by_cases h9:k=32
 · subst h9
   simp[QP,qJ,qL,qK,jh,Tree.kind,Tree.name,Tree.kids,QX]
   rw[Q0 32 false [101] (fun i=>by simp),List.map_replicate,qbJ,jm]
   exact qs9
 · exact qef
theorem qkC:isR nm tok (.mk k f t a n l) 1018=((decide (k=27)||(decide (k=32)&&(decide (n=QC)||decide (n=Qz))))&&isR nm tok (.mk k f t a n l) (eC 7 true)):=by
 rw[isE nm tok k f t a n l 7 true zxo zxo,qT,qF]
 by_cases h:k=27
 · subst h
   simp[QP,qJ,qL,qK,jh,Tree.kind,Tree.name,Tree.kids,QX]
   cases l with
   | nil=>simp
   | cons x r =>
    have hr:j8 27 true 0 (x::r)=[if true then 1020 else 20]::List.replicate r.length [101]:=by rw[j8,Jp 27 true [101] (fun i hi=>by simp;omega) r (0+1) zxo];rfl
    exact qlj
 by_cases h9:k=32
 · subst h9
   simp[QP,qJ,qL,qK,jh,Tree.kind,Tree.name,Tree.kids,QX]
   rw[Q0 32 true [101] (fun i=>by simp),List.map_replicate,qbJ,jm]
   exact qs9
 · exact qef
theorem qrq:isR nm tok (.mk k f t a n l) 20=((decide (k=25)||decide (k=26))&&isR nm tok (.mk k f t a n l) (eC 7 false)):=by
 rw[isE nm tok k f t a n l 7 false zxo zxo,qT,qF]
 exact qqG
theorem qkM:isR nm tok (.mk k f t a n l) 1020=((decide (k=25)||decide (k=26))&&isR nm tok (.mk k f t a n l) (eC 7 true)):=by
 rw[isE nm tok k f t a n l 7 true zxo zxo,qT,qF]
 exact qqG
end
end
namespace Tree
def fr:Tree→Int | mk _ f _ _ _ _=>f
def en:Tree→Int | mk _ _ t _ _ _=>t
def at_:Tree→Int | mk _ _ _ a _ _=>a
end Tree
mutual
def jc:Tree→Nat
 | .mk k _ _ _ _ l=>if k=0 then 0 else jM l+1
def jM:List Tree→Nat
 | []=>0
 | t::l=>max (jc t) (jM l)
end
mutual
def qaS:Tree→Tree→Bool
 | .mk k _ _ _ n l,.mk k' _ _ _ n' l'=>decide (k=k')&&decide (n=n')&&JC l l'
def JC:List Tree→List Tree→Bool
 | [],[]=>true
 | t::l,t'::l'=>qaS t t'&&JC l l'
 | _,_=>false
end
mutual
def qdb:Tree→Nat
 | .mk _ _ _ _ _ l=>qdk l+1
def qdk:List Tree→Nat
 | []=>0
 | t::l=>qdb t+qdk l
end
theorem qbW:∀ {l:List Tree} {x:Tree},x∈l→qdb x≤qdk l
 | t::l,x,h=>by
  unfold qdk
  rcases List.mem_cons.1 h with rfl | h
  · omega
  · have:=qbW h;omega
theorem qlI {k f t a:Int} {n:BL} {l:List Tree} {x:Tree} (h:x∈l):qdb x<qdb (.mk k f t a n l):=by
 have:=qbW h
 have e:qdb (.mk k f t a n l)=qdk l+1:=by rw[qdb]
 omega
theorem QI {P:Tree→Prop} (h:∀ k f t a n l,(∀ x∈l,P x)→P (.mk k f t a n l)):∀ t,P t:=by
 have:∀ (m:Nat) (t:Tree),qdb t≤m→P t:=by
  intro m
  induction m with
  | zero=>intro t ht;cases t;rw[qdb] at ht;omega
  | succ m ih =>
   intro t ht
   obtain⟨k,f,tt,a,n,l⟩:=t
   exact h k f tt a n l (fun x hx=>ih x (by have:=qlI (k:=k) (f:=f) (t:=tt) (a:=a) (n:=n) hx;omega))
 exact fun t=>this _ t zxn
def SimL:List Tree→List Tree→Prop
 | [],[]=>True
 | x::l,y::m=>(x.kind=0↔y.kind=0)∧(x.kind=2↔y.kind=2)∧SimL l m
 | _,_=>False
theorem SimL.empty:∀ {l m:List Tree},SimL l m→l.isEmpty=m.isEmpty
 | [],[],_=>rfl
 | _::_,_::_,_=>rfl
theorem qc7:∀ {l m:List Tree},JC l m=true→l.length=m.length
 | [],[],_=>rfl
 | [],_::_,h=>by simp[JC] at h
 | _::_,[],h=>by simp[JC] at h
 | x::l,y::m,h=>by
  unfold JC at h;rw[Bool.and_eq_true] at h
  simp[qc7 h.2]
section
variable (nm:BL→Bool) (tok:BL→Int→Bool)
def qbo (t:Tree):Bool:=decide (t.kind=1)&&nm t.name&&JB nm tok t.kids (qbP true t.kids)
def jY (t:Tree):Int:=if 64<jc t then 3 else if qbo nm tok t then 0 else 4
end
def xT:Tree:=.mk 25 0 0 0 [120] []
def quS (s:BL):Tree:=.mk 25 0 0 0 s []
def qaC:Tree:=.mk 0 0 0 0 [] []
def qo1 (x:Tree) (s:BL):Tree:=.mk 26 0 0 0 s [x]
def qhh:Tree:=.mk 28 0 0 0 [] [.mk 8 0 0 0 [84] []]
def quI (f:Tree) (l:List Tree):Tree:=.mk 27 0 0 0 [] (f::l)
def qc4 (x:Tree):Tree:=.mk 33 0 0 0 [] [x]
def qeR (op:BL) (a b:Tree):Tree:=.mk 31 0 0 0 op [a,b]
def J2 (l:List Tree):Tree:=.mk 10 0 0 0 [] l
def jL (l:List Tree):Tree:=.mk 1 0 0 0 [112] [.mk 5 0 0 0 [102] [qaC,.mk 6 0 0 0 [] [],qaC,J2 l]]
def qiB (e:Tree):Tree:=.mk 19 0 0 0 [] [e]
def qaF (e:Tree):Tree:=.mk 14 0 0 0 [] [e,J2 [],qaC]
def qvN (x:Tree):Tree:=.mk 15 0 0 0 [] [qaC,qaC,x,J2 []]
def qve (x:Tree):Tree:=.mk 20 0 0 0 [] [x]
section
variable (nm:BL→Bool) (tok:BL→Int→Bool)
def W1:Tree:=jL [qiB (qeR [43] xT (qeR [42] xT xT))]
def W2:Tree:=jL [qiB (qeR [42] (qeR [43] xT xT) xT)]
def W3:Tree:=jL [qaF (qo1 qhh [97])]
def W4:Tree:=jL [qaF (qo1 (qc4 qhh) [97])]
theorem qgv (s:Tree) (hp:nm [112]=true) (hf:nm [102]=true) (hd:jc s≤60):jY nm tok (jL [s])=if isR nm tok s 11 then 0 else 4:=by
 have hdep:¬ 64<jc (jL [s]):=by
  simp[jL,J2,qaC,jc,jM];omega
 unfold jY
 rw[if_neg hdep]
 have e:qbo nm tok (jL [s])=isR nm tok s 11:=by
  unfold qbo jL
  simp[Tree.kind,Tree.name,Tree.kids,qbP,JB,qj1,isR,QP,qJ,qL,qK,jh,qaC,J2,j8,hp,hf]
  cases s;simp[qj1]
 rw[e]
theorem qrh (hx:nm [120]=true) (hp:nm [112]=true) (hf:nm [102]=true) (ha:nm [97]=true) (hT:nm [84]=true):jY nm tok (jL [qiB (qeR [43] xT (qeR [42] xT xT))])=0:=by
 exact qk7
theorem qqq (hx:nm [120]=true) (hp:nm [112]=true) (hf:nm [102]=true) (ha:nm [97]=true) (hT:nm [84]=true):jY nm tok (jL [qiB (qeR [42] (qeR [43] xT xT) xT)])=4:=by
 exact qk7
theorem qr9 (hx:nm [120]=true) (hp:nm [112]=true) (hf:nm [102]=true) (ha:nm [97]=true) (hT:nm [84]=true):jY nm tok (jL [qaF (qo1 qhh [97])])=4:=by
 exact qk7
theorem qqo (hx:nm [120]=true) (hp:nm [112]=true) (hf:nm [102]=true) (ha:nm [97]=true) (hT:nm [84]=true):jY nm tok (jL [qaF (qo1 (qc4 qhh) [97])])=0:=by
 exact qk7
end
def Jg:Bool→List Tree→List (List Nat)
 | _,[]=>[]
 | b,t::l=>(if b&&decide (t.kind=2) then [1] else [2])::Jg (decide (t.kind=2)) l
section
variable (nm:BL→Bool) (tok:BL→Int→Bool)
theorem qkQ (t:Tree) (h:t.kind=2):qj1 nm tok t [2]=false:=by
 obtain⟨k,f,tt,a,n,l⟩:=t
 have hk:k=2:=h
 subst hk
 simp[qj1,isR,QP,qJ,qL,Tree.kind]
theorem qc0:∀ (l:List Tree) (b:Bool),JB nm tok l (Jg b l)=JB nm tok l (qbP b l)
 | [],b=>rfl
 | t::l,b=>by
  unfold Jg qbP JB
  by_cases hk:t.kind=2
  · cases b with
    | true=>rw[hk];simp only[decide_true,Bool.and_true];rw[qc0 l true]
    | false =>
     simp only[Bool.false_and,Bool.false_eq_true,if_false]
     rw[qkQ nm tok t hk];simp
  · have e:decide (t.kind=2)=false:=decide_eq_false hk
    rw[e]
    simp only[Bool.and_false,Bool.false_eq_true,if_false]
    rw[qc0 l false]
theorem qbC:∀ l:List Tree,qbP false l=List.replicate l.length [2]
 | []=>rfl
 | t::l=>by unfold qbP;simp[qbC l,List.replicate_succ]
def qO:List Tree→Nat
 | []=>0
 | t::l=>if t.kind=2 then qO l+1 else 0
theorem qb6:∀ l:List Tree,qO l≤l.length
 | []=>Nat.le_refl _
 | t::l=>by unfold qO;have:=qb6 l;split<;>simp<;>omega
theorem qcj:∀ l:List Tree,qbP true l=List.replicate (qO l) [1]++List.replicate (l.length-qO l) [2]
 | []=>rfl
 | t::l=>by
  unfold qbP qO
  by_cases hk:t.kind=2
  · rw[if_pos hk,hk]
    simp only[decide_true,Bool.and_true,if_true]
    rw[qcj l,List.replicate_succ,List.cons_append,List.length_cons,Nat.add_sub_add_right]
  · rw[if_neg hk,decide_eq_false hk]
    simp only[Bool.and_false,Bool.false_eq_true,if_false]
    rw[qbC,List.replicate_zero,List.nil_append,List.length_cons,Nat.sub_zero,List.replicate_succ]
end
theorem qcP:∀ {ps:List (Tree→Bool)} {l:List Tree},qx ps l=true→ps.length=l.length
 | [],[],_=>rfl
 | [],_::_,h=>by simp[qx] at h
 | _::_,[],h=>by simp[qx] at h
 | p::ps,x::l,h=>by
  unfold qx at h
  rw[Bool.and_eq_true] at h
  simp[qcP h.2]
theorem qch {ps:List (Tree→Bool)} {l:List Tree} (h:ps.length≠l.length):qx ps l=false:=by
 rw[Bool.eq_false_iff]
 exact fun ha=>h (qcP ha)
structure RN where
 kind:Int
 fr:Int
 en:Int
 at_:Int
 name:ByteArray
 A:Option Addr
 n:Nat
 cap:Nat
def RN.cells (r:RN):List Value:=[.int .i64 r.kind,.int .i64 r.fr,.int .i64 r.en,.int .i64 r.at_,.string r.name,.slice r.A r.n r.cap]
def RN.val (r:RN):Value:=.agg #[.int .i64 r.kind,.int .i64 r.fr,.int .i64 r.en,.int .i64 r.at_,.string r.name,.slice r.A r.n r.cap]
theorem RN.len (r:RN):r.cells.length=6:=rfl
theorem RN.one (r:RN):∀ u∈r.cells,u.oneCell'=true:=by
 intro u hu
 unfold RN.cells at hu
 simp only[List.mem_cons,List.not_mem_nil,or_false] at hu
 rcases hu with rfl | rfl | rfl | rfl | rfl | rfl<;>rfl
inductive NodeM (w:World) (B:Nat):Tree→RN→Prop where
 | mk (k f t a:Int) (n:BL) (l:List Tree) (A:Option Addr) (cap:Nat) (rs:List RN) (hr:RowOf RN.cells 6 w B A rs) (hl:rs.length=l.length)
   (hk:∀ (i:Nat) (x:Tree) (r:RN),l[i]?=some x→rs[i]?=some r→NodeM w B x r):NodeM w B (.mk k f t a n l) ⟨k,f,t,a,qn n,A,l.length,cap⟩
section
variable {w w':World} {B B':Nat} {t:Tree} {r:RN}
theorem NodeM.keep (h:NodeM w B t r) (hk:∀ p:Addr,p.block<B→w'.cell? p=w.cell? p):NodeM w' B t r:=by
 induction h with
 | mk k f t a n l A cap rs hr hl _ ih=>exact .mk k f t a n l A cap rs (hr.keep hk) hl ih
theorem NodeM.more (h:NodeM w B t r) (hB:B≤B'):NodeM w B' t r:=by
 induction h with
 | mk k f t a n l A cap rs hr hl _ ih=>exact .mk k f t a n l A cap rs (hr.more hB) hl ih
theorem NodeM.under (h:NodeM w B t r) (hb:Below B' w w') (hB:B≤B'):NodeM w' B t r:=h.keep fun _ hp=>hb.cell zxo
theorem NodeM.drewN (h:NodeM w B t r) (k:Nat):NodeM (w.drewN k) B t r:=h.keep fun _ _=>rfl
theorem NodeM.alloc (h:NodeM w B t r) (hB:B≤w.heap.size) (o:Obj):NodeM (w.alloc o) B t r:=h.keep fun p hp=>World.cell?_alloc_lt w o p zxo
theorem NodeM.after (h:NodeM w B t r) (hB:B≤w.heap.size) (hb:Below w.heap.size w w'):NodeM w' w'.heap.size t r:=(h.under hb hB).more (Nat.le_trans hB hb.size)
theorem NodeM.kind (h:NodeM w B t r):r.kind=t.kind:=by cases h;rfl
theorem NodeM.fr (h:NodeM w B t r):r.fr=t.fr:=by cases h;rfl
theorem NodeM.en (h:NodeM w B t r):r.en=t.en:=by cases h;rfl
theorem NodeM.at_ (h:NodeM w B t r):r.at_=t.at_:=by cases h;rfl
theorem NodeM.name (h:NodeM w B t r):r.name=qn t.name:=by cases h;rfl
theorem NodeM.n (h:NodeM w B t r):r.n=t.kids.length:=by cases h;rfl
theorem NodeM.open_ {k f en a:Int} {n:BL} {l:List Tree} (h:NodeM w B (.mk k f en a n l) r):∃ A cap rs,r=⟨k,f,en,a,qn n,A,l.length,cap⟩∧RowOf RN.cells 6 w B A rs∧rs.length=l.length ∧
  ∀ (i:Nat) (x:Tree) (r:RN),l[i]?=some x→rs[i]?=some r→NodeM w B x r:=by
 cases h with
 | mk _ _ _ _ _ _ A cap rs hr hl hk=>exact⟨A,cap,rs,rfl,hr,hl,hk⟩
theorem qfY {A:Option Addr} {rs:List RN} {l:List Tree} (hr:RowOf RN.cells 6 w B A rs) (hl:rs.length=l.length) (hk:∀ (i:Nat) (x:Tree) (r:RN),l[i]?=some x→rs[i]?=some r→NodeM w B x r)
  {i:Nat} {x:Tree} (hx:l[i]?=some x):∃ b off rx,A=some ⟨b,off,none⟩∧b<B∧rs[i]?=some rx∧NodeM w B x rx ∧
   w.cell? ⟨b,off+i*6,none⟩=some (.int .i64 rx.kind)∧w.cell? ⟨b,off+i*6+1,none⟩=some (.int .i64 rx.fr)∧w.cell? ⟨b,off+i*6+2,none⟩=some (.int .i64 rx.en) ∧
   w.cell? ⟨b,off+i*6+3,none⟩=some (.int .i64 rx.at_)∧w.cell? ⟨b,off+i*6+4,none⟩=some (.string rx.name)∧w.cell? ⟨b,off+i*6+5,none⟩=some (.slice rx.A rx.n rx.cap):=by
 have hi:i<rs.length:=by
  rw[hl];exact(List.getElem?_eq_some_iff.1 hx).1
 obtain⟨b,off,hA,hb,hc⟩:=hr zxo
 have hrx:rs[i]?=some rs[i]:=List.getElem?_eq_getElem hi
 exact⟨b,off,rs[i],hA,hb,hrx,hk i x _ hx hrx,hc i _ hrx 0 _ rfl,hc i _ hrx 1 _ rfl,hc i _ hrx 2 _ rfl,hc i _ hrx 3 _ rfl,hc i _ hrx 4 _ rfl,hc i _ hrx 5 _ rfl⟩
end
theorem NodeM.made (W:World) (arr:Array Value) (e:TypeId) (fz:Nat×Nat) (rs:List RN) (h:arr.toList=rs.flatMap RN.cells) (l:List Tree) (hl:rs.length=l.length)
  (hk:∀ (i:Nat) (x:Tree) (r:RN),l[i]?=some x→rs[i]?=some r→NodeM W W.heap.size x r) (g:Nat) (hg:g=W.heap.size) (k f t a:Int) (n:BL) (cap:Nat) :
  NodeM (W.alloc (.cells arr e fz)) (W.alloc (.cells arr e fz)).heap.size (.mk k f t a n l) ⟨k,f,t,a,qn n,some ⟨g,0,none⟩,l.length,cap⟩ :=
 .mk k f t a n l (some ⟨g,0,none⟩) cap rs (RowOf.made RN.len W arr e fz h g hg) hl (fun i x r hx hr=>((hk i x r hx hr).alloc zxn _).more zxs)
theorem NodeM.leaf (w:World) (B:Nat) (k f t a:Int) (n:BL) (A:Option Addr) (cap:Nat):NodeM w B (.mk k f t a n []) ⟨k,f,t,a,qn n,A,0,cap⟩ :=
 .mk k f t a n [] A cap [] RowOf.nil_ rfl (fun i x r hx _=>by simp at hx)
def SortAt (P:Program) (v:Value) (Pr:Tree→Bool) (w:World) (x:Tree):Prop :=
 ∃ g lb,v = .func (.func g) #[] lb∧(∀ args w,(callFunc g args).run P w = .ok (.enter g args) w) ∧
  ∀ (W:World) (rx:RN),Below w.heap.size w W→NodeM W W.heap.size x rx→Calls P g (#[rx.val]++lb) W fun e w'=>e = .returned (.bool (Pr x))∧Below W.heap.size W w'
theorem SortAt.later {P:Program} {v:Value} {Pr:Tree→Bool} {w w':World} {x:Tree} (h:SortAt P v Pr w x) (hb:Below w.heap.size w w'):SortAt P v Pr w' x:=by
 obtain⟨g,lb,e1,e2,h⟩:=h
 exact⟨g,lb,e1,e2,fun W rx hW hm=>h W rx (qa hb hW) hm⟩
mutual
def qY:Tree→Nat
 | .mk _ _ _ _ n l=>JA l+n.length+1
def JA:List Tree→Nat
 | []=>0
 | t::l=>qY t+JA l
end
theorem qdc:∀ {l:List Tree} {x:Tree},x∈l→qY x≤JA l
 | t::l,x,h=>by
  unfold JA
  rcases List.mem_cons.1 h with rfl | h
  · omega
  · have:=qdc h;omega
theorem qdv:∀ l:List Tree,l.length≤JA l
 | []=>Nat.le_refl _
 | .mk _ _ _ _ _ _::l=>by
  have:=qdv l
  simp only[JA,qY,List.length_cons];omega
section
open Go.ChangeShapes Go.WideShapes Go.ChangeAt Go.RowKit
mutual
def qbL:Tree→Prop
 | .mk _ _ _ _ n l=>n.length≤maxLen∧l.length≤maxLen∧qg0 l
def qg0:List Tree→Prop
 | []=>True
 | t::l=>qbL t∧qg0 l
end
theorem qfR:∀ l:List Tree,(∀ x∈l,qbL x)→qg0 l
 | [],_=>trivial
 | t::l,h=>⟨h t zxs,qfR l (fun x hx=>h x (List.mem_cons_of_mem _ hx))⟩
theorem qdz:∀ {l:List Tree} {x:Tree},qg0 l→x∈l→qbL x
 | t::l,x,h,hx=>by
  rcases List.mem_cons.1 hx with rfl | hx
  · exact h.1
  · exact qdz h.2 hx
section
variable {H:Type} {enc:TypeId×Value→H} {P:Program} {W:World}
instance :Inhabited (Tree×RN):=⟨(.mk 0 0 0 0 [] [],⟨0,0,0,0,ByteArray.empty,none,0,0⟩)⟩
theorem qhi {base:Nat} {spare:Nat→Bool} {held:Bool} {nt:TypeId} {f0 f1 f2 f3 f4 f5:Field} (ht:P.underlying nt=some (.struct #[f0,f1,f2,f3,f4,f5])) (hC:P.cellsOf nt=6)
  (o0:f0.offset=0) (o1:f1.offset=1) (o2:f2.offset=2) (o3:f3.offset=3) (o4:f4.offset=4) (o5:f5.offset=5)
  (c0:P.cellsOf f0.type=1) (c1:P.cellsOf f1.type=1) (c2:P.cellsOf f2.type=1) (c3:P.cellsOf f3.type=1) (c4:P.cellsOf f4.type=1) (c5:P.cellsOf f5.type=1)
  (h0:P.underlying f0.type=some (.int .i64)) (h1:P.underlying f1.type=some (.int .i64)) (h2:P.underlying f2.type=some (.int .i64)) (h3:P.underlying f3.type=some (.int .i64))
  (h4:P.underlying f4.type=some .string) (h5:P.underlying f5.type=some (.slice nt)) :
  ∀ (fuel:Nat) (cs:List Value) (y:DataW H×List MemPlace),DataW.trod enc P W base spare held fuel nt cs=some y→∃ t r,cs=RN.cells r∧NodeM W W.heap.size t r∧qbL t:=by
 intro fuel
 induction fuel using Nat.strongRecOn with
 | ind fuel ih =>
 intro cs y h
 obtain⟨xs,n,hn,rfl,hl,hlen,hf⟩:=DataW.trod_struct ht h
 match xs,hlen with
 | [y0,y1,y2,y3,y4,y5],_ =>
 have g0:=hf 0 f0 rfl
 have g1:=hf 1 f1 rfl
 have g2:=hf 2 f2 rfl
 have g3:=hf 3 f3 rfl
 have g4:=hf 4 f4 rfl
 have g5:=hf 5 f5 rfl
 rw[hC] at hl
 match cs,hl with
 | [v0,v1,v2,v3,v4,v5],_ =>
 rw[o0,c0] at g0
 rw[o1,c1] at g1
 rw[o2,c2] at g2
 rw[o3,c3] at g3
 rw[o4,c4] at g4
 rw[o5,c5] at g5
 obtain⟨k,e0,_,_⟩:=DataW.trod_int h0 g0
 obtain⟨f,e1,_,_⟩:=DataW.trod_int h1 g1
 obtain⟨en,e2,_,_⟩:=DataW.trod_int h2 g2
 obtain⟨a,e3,_,_⟩:=DataW.trod_int h3 g3
 obtain⟨s,e4,_,hs⟩:=DataW.trod_string h4 g4
 obtain rfl:v0 = .int .i64 k:=by simpa using e0
 obtain rfl:v1 = .int .i64 f:=by simpa using e1
 obtain rfl:v2 = .int .i64 en:=by simpa using e2
 obtain rfl:v3 = .int .i64 a:=by simpa using e3
 obtain rfl:v4 = .string s:=by simpa using e4
 have hsl:s.data.toList.length≤maxLen:=by rw[Array.length_toList];exact hs
 rcases DataW.trod_slice h5 g5 with⟨e5,_⟩ | ⟨ad,len,cap,elems,rest,m,hm,e5,_,hb,hle,hcap,helen,hel,_,_⟩
 · obtain rfl:v5 = .slice none 0 0:=by simpa using e5
   refine⟨.mk k f en a s.data.toList [],⟨k,f,en,a,s,none,0,0⟩,rfl,?_,hsl,Nat.zero_le _,trivial⟩
   have:=NodeM.leaf W W.heap.size k f en a s.data.toList none 0
   rwa [jE] at this
 · obtain rfl:v5 = .slice (some ad) len cap:=by simpa using e5
   have hx:∀ i,i<len→∃ xr:Tree×RN,(∀ j u,xr.2.cells[j]?=some u→W.cell? (ad.add (i*6+j))=some u)∧NodeM W W.heap.size xr.1 xr.2∧qbL xr.1:=fun i hi=>by
    have he:=hel i hi
    rw[List.getElem?_eq_getElem zxo] at he
    obtain⟨cs',hc,ht'⟩:=Option.bind_eq_some_iff.1 he
    obtain⟨x,r,rfl,hxm,hxf⟩:=ih m zxo cs' _ ht'
    obtain⟨_,hcl,hat⟩:=World.cells?_some hc
    refine⟨(x,r),fun j u hu=>?_,hxm,hxf⟩
    have hj:j<r.cells.length:=(List.getElem?_eq_some_iff.1 hu).1
    have:=hat j (by rw[← hcl];exact hj)
    rw[Go.Deep.add_add,hC] at this
    rw[this];exact hu
   obtain⟨X,hX⟩:=Go.Deep.choose_lt hx
   refine⟨.mk k f en a s.data.toList ((List.range len).map fun i=>(X i).1),⟨k,f,en,a,s,some ad,len,cap⟩,rfl,?_,hsl,by rw[List.length_map,List.length_range];omega,?_⟩
   · have hmk:=NodeM.mk (w:=W) (B:=W.heap.size) k f en a s.data.toList ((List.range len).map fun i=>(X i).1) (some ad) cap ((List.range len).map fun i=>(X i).2) ?_ zxs ?_
     · rw[jE] at hmk
       simpa using hmk
     · intro hpos
       simp at hpos
       have hh0:=(hX 0 hpos).1
       obtain⟨u,hu⟩:∃ u,W.cell? ad=some u:=by
        have:=hh0 0 _ (by show((X 0).2.cells)[0]?=some _;rfl)
        exact⟨_,by simpa[Addr.add] using this⟩
       obtain⟨b,off,spot⟩:=ad
       have hsp:spot=none:=World.cell?_spot hu
       subst hsp
       refine⟨b,off,rfl,World.block_lt_of_cell? _ _ hu,fun i x hx j u hu=>?_⟩
       have hil:i<len:=by
        exact qs8
       simp[List.getElem?_map,List.getElem?_range hil] at hx
       subst hx
       have:=(hX i hil).1 j u hu
       rw[Addr.add_lit] at this
       rw[Nat.add_assoc]
       exact this
     · intro i x r hx hr
       have hil:i<len:=by
        exact qs8
       simp[List.getElem?_map,List.getElem?_range hil] at hx hr
       subst hx hr
       exact(hX i hil).2.1
   · refine qfR _ fun x hx=>?_
     simp only[List.mem_map,List.mem_range] at hx
     obtain⟨i,hi,rfl⟩:=hx
     exact(hX i hi).2.2
end
end
section
open Go.ChangeShapes Go.WideShapes Go.ChangeAt Go.RowKit
theorem qhA {H:Type} {enc:TypeId×Value→H} {W:World} {base b0:Nat} {spare:Nat→Bool} {held:Bool} {q:Reach} {v:Value} {d:DataW H} {ps:List MemPlace} (hval:Value.okWide Tryz.prog W q b0 24 v) (hd:DataW.Trod enc Tryz.prog W base spare held 24 v d ps) :
  ∃ t r,v=RN.val r∧NodeM W W.heap.size t r∧qbL t:=by
 obtain⟨cs,rfl,hsz⟩:=okWide_struct Tryz.underlying24 hval
 obtain⟨fuel,hf⟩:=hd
 obtain⟨t,r,hc,hm,hfi⟩:=qhi (enc:=enc) Tryz.underlying24 (by kernel_rfl) rfl rfl rfl rfl rfl rfl (by kernel_rfl) (by kernel_rfl) (by kernel_rfl) (by kernel_rfl) (by kernel_rfl) (by kernel_rfl) (by kernel_rfl) (by kernel_rfl) (by kernel_rfl) (by kernel_rfl) (by kernel_rfl) (by kernel_rfl) fuel _ _ hf
 refine⟨t,r,?_,hm,hfi⟩
 have e:cs=r.cells.toArray:=by
  rw[← Array.toList_inj]
  simpa[Value.cells] using hc
 rw[e]
 rfl
end
end Go.Proofs.YtacdfjlncfidgaaGreatDoor
