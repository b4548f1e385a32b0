/- A part of what the claim leans on. -/
import Derived.Test.YtacdfjlncfidgaaGreatDoorQS
import Derived.Test.YtacdfjlncfidgaaGreatDoorTX
import Derived.Test.YtacdfjlncfidgaaGreatDoorTO
import Derived.Test.YtacdfjlncfidgaaGreatDoorTF
namespace Go.Proofs.YtacdfjlncfidgaaGreatDoor
open Go.RowKit
set_option linter.unusedVariables false
set_option linter.unusedSimpArgs false
set_option maxRecDepth 100000
set_option maxHeartbeats 32000000
def JT (x:Nat×Nat):List Value:=[.slice (some ⟨x.1,0,none⟩) x.2 x.2]
theorem qR (x:Nat×Nat):(JT x).length=1:=rfl
theorem jF (x:Nat×Nat):∀ u∈JT x,u.oneCell'=true:=by intro u hu;simp[JT] at hu;subst hu;rfl
def RowsAt (w:World):List (Nat×Nat)→List (List Nat)→Prop
 | [],[]=>True
 | x::gs,row::rows=>(x.2=row.length∧w.heap[x.1]?=some (.cells (row.map fun d:Nat=>Value.int .i64 d).toArray 3 (0,0)))∧RowsAt w gs rows
 | _,_=>False
theorem RowsAt.later {w w':World} (hb:Below w.heap.size w w'):∀ {gs:List (Nat×Nat)} {rows:List (List Nat)},RowsAt w gs rows→RowsAt w' gs rows
 | [],[],_=>trivial
 | _::_,_::_,h=>⟨⟨h.1.1,qg h.1.2 hb⟩,h.2.later hb⟩
 | [],_::_,h=>h.elim
 | _::_,[],h=>h.elim
theorem RowsAt.len {w:World}:∀ {gs:List (Nat×Nat)} {rows:List (List Nat)},RowsAt w gs rows→gs.length=rows.length
 | [],[],_=>rfl
 | _::_,_::_,h=>by simp[h.2.len]
 | [],_::_,h=>h.elim
 | _::_,[],h=>h.elim
theorem RowsAt.snoc {w:World} {g:Nat} {row:List Nat} (h2:w.heap[g]?=some (.cells (row.map fun d:Nat=>Value.int .i64 d).toArray 3 (0,0))):∀ {gs:List (Nat×Nat)} {rows:List (List Nat)},RowsAt w gs rows→RowsAt w (gs++[(g,row.length)]) (rows++[row])
 | [],[],_=>⟨⟨rfl,h2⟩,trivial⟩
 | _::_,_::_,h=>⟨h.1,h.2.snoc h2⟩
 | [],_::_,h=>h.elim
 | _::_,[],h=>h.elim
theorem RowsAt.at {w:World}:∀ {gs:List (Nat×Nat)} {rows:List (List Nat)} {i:Nat} {row:List Nat},RowsAt w gs rows→rows[i]?=some row→∃ x,gs[i]?=some x∧x.2=row.length∧w.heap[x.1]?=some (.cells (row.map fun d:Nat=>Value.int .i64 d).toArray 3 (0,0))
 | x::_,_::_,0,_,h,hr=>by cases hr;exact⟨x,rfl,h.1.1,h.1.2⟩
 | _::_,_::_,i+1,_,h,hr=>h.2.at (i:=i) hr
 | [],[],_,_,_,hr=>by simp at hr
 | [],_::_,_,_,h,_=>h.elim
 | _::_,[],_,_,h,_=>h.elim
def RowsM (w:World) (A:Option Addr) (rows:List (List Nat)):Prop:=∃ gs,RowOf JT 1 w w.heap.size A gs∧RowsAt w gs rows
theorem RowsM.of {w:World} {b:Nat} {arr:Array Value} {T:TypeId} (gs:List (Nat×Nat)) {rows:List (List Nat)} (hb:w.heap[b]?=some (.cells arr T (0,0))) (h:RowsAt w gs rows) (ha:arr.toList=gs.flatMap JT:=by rfl):RowsM w (some ⟨b,0,none⟩) rows :=
 ⟨gs,RowOf.there qR hb ha,h⟩
theorem RowsM.nil_ (w:World) (A:Option Addr):RowsM w A []:=⟨[],fun h=>absurd h zxs,trivial⟩
theorem RowsM.later {w w':World} {A:Option Addr} {rows:List (List Nat)} (h:RowsM w A rows) (hb:Below w.heap.size w w'):RowsM w' A rows:=by
 obtain⟨gs,h1,h2⟩:=h
 exact⟨gs,h1.after zxn hb,h2.later hb⟩
theorem RowsM.at {w:World} {A:Option Addr} {rows:List (List Nat)} (h:RowsM w A rows) {i:Nat} {row:List Nat} (hr:rows[i]?=some row) :
  ∃ b off g,A=some ⟨b,off,none⟩∧w.cell? ⟨b,off+i,none⟩=some (.slice (some ⟨g,0,none⟩) row.length row.length)∧∀ (k d:Nat),row[k]?=some d→w.cell? ⟨g,k,none⟩=some (.int .i64 d):=by
 obtain⟨gs,h1,h2⟩:=h
 obtain⟨x,hx,hl,hg⟩:=h2.at hr
 have hlt:i<gs.length:=by
  rcases Nat.lt_or_ge i gs.length with h | h
  · exact h
  · rw[List.getElem?_eq_none h] at hx;cases hx
 obtain⟨b,off,rfl,_,hc⟩:=h1 zxo
 refine⟨b,off,x.1,rfl,?_,fun k d hd=>?_⟩
 · have:=hc i x hx 0 _ rfl
   rw[hl] at this
   simpa using this
 · rw[cell_of_row _ _ _ _ _ _ hg,List.getElem?_toArray,List.getElem?_map,hd];rfl
def qX (t:Tree) (need:Nat) (head:Bool):List (List Nat)×Bool:=if t.kind=1 then (Jg true t.kids,true) else jh t need head
def jd (p:List (List Nat)×Bool) (w:World) (e:Ending) (w':World):Prop:=(∃ A cap,e = .returned (.tuple #[.slice A p.1.length cap,.bool p.2])∧RowsM w' A p.1)∧Below w.heap.size w w'
theorem RowsM.of1 {w:World} {b g1 n1:Nat} {T:TypeId} {r1:List Nat} (hb:w.heap[b]?=some (.cells #[.slice (some ⟨g1,0,none⟩) n1 n1] T (0,0)):=by repeat (first | exact qG zxs | apply qb)) (h1:w.heap[g1]?=some (.cells (r1.map fun d:Nat=>Value.int .i64 d).toArray 3 (0,0)):=by repeat (first | exact qG zxs | apply qb)) (e1:n1=r1.length:=by rfl):RowsM w (some ⟨b,0,none⟩) [r1] :=
 .of [(g1,n1)] hb ⟨⟨e1,h1⟩,trivial⟩
theorem RowsM.of2 {w:World} {b g1 g2 n1 n2:Nat} {T:TypeId} {r1 r2:List Nat} (hb:w.heap[b]?=some (.cells #[.slice (some ⟨g1,0,none⟩) n1 n1,.slice (some ⟨g2,0,none⟩) n2 n2] T (0,0)):=by repeat (first | exact qG zxs | apply qb)) (h1:w.heap[g1]?=some (.cells (r1.map fun d:Nat=>Value.int .i64 d).toArray 3 (0,0)):=by repeat (first | exact qG zxs | apply qb)) (e1:n1=r1.length:=by rfl) (h2:w.heap[g2]?=some (.cells (r2.map fun d:Nat=>Value.int .i64 d).toArray 3 (0,0)):=by repeat (first | exact qG zxs | apply qb)) (e2:n2=r2.length:=by rfl):RowsM w (some ⟨b,0,none⟩) [r1,r2] :=
 .of [(g1,n1),(g2,n2)] hb ⟨⟨e1,h1⟩,⟨e2,h2⟩,trivial⟩
theorem RowsM.of3 {w:World} {b g1 g2 g3 n1 n2 n3:Nat} {T:TypeId} {r1 r2 r3:List Nat} (hb:w.heap[b]?=some (.cells #[.slice (some ⟨g1,0,none⟩) n1 n1,.slice (some ⟨g2,0,none⟩) n2 n2,.slice (some ⟨g3,0,none⟩) n3 n3] T (0,0)):=by repeat (first | exact qG zxs | apply qb)) (h1:w.heap[g1]?=some (.cells (r1.map fun d:Nat=>Value.int .i64 d).toArray 3 (0,0)):=by repeat (first | exact qG zxs | apply qb)) (e1:n1=r1.length:=by rfl) (h2:w.heap[g2]?=some (.cells (r2.map fun d:Nat=>Value.int .i64 d).toArray 3 (0,0)):=by repeat (first | exact qG zxs | apply qb)) (e2:n2=r2.length:=by rfl) (h3:w.heap[g3]?=some (.cells (r3.map fun d:Nat=>Value.int .i64 d).toArray 3 (0,0)):=by repeat (first | exact qG zxs | apply qb)) (e3:n3=r3.length:=by rfl):RowsM w (some ⟨b,0,none⟩) [r1,r2,r3] :=
 .of [(g1,n1),(g2,n2),(g3,n3)] hb ⟨⟨e1,h1⟩,⟨e2,h2⟩,⟨e3,h3⟩,trivial⟩
theorem RowsM.of4 {w:World} {b g1 g2 g3 g4 n1 n2 n3 n4:Nat} {T:TypeId} {r1 r2 r3 r4:List Nat} (hb:w.heap[b]?=some (.cells #[.slice (some ⟨g1,0,none⟩) n1 n1,.slice (some ⟨g2,0,none⟩) n2 n2,.slice (some ⟨g3,0,none⟩) n3 n3,.slice (some ⟨g4,0,none⟩) n4 n4] T (0,0)):=by repeat (first | exact qG zxs | apply qb)) (h1:w.heap[g1]?=some (.cells (r1.map fun d:Nat=>Value.int .i64 d).toArray 3 (0,0)):=by repeat (first | exact qG zxs | apply qb)) (e1:n1=r1.length:=by rfl) (h2:w.heap[g2]?=some (.cells (r2.map fun d:Nat=>Value.int .i64 d).toArray 3 (0,0)):=by repeat (first | exact qG zxs | apply qb)) (e2:n2=r2.length:=by rfl) (h3:w.heap[g3]?=some (.cells (r3.map fun d:Nat=>Value.int .i64 d).toArray 3 (0,0)):=by repeat (first | exact qG zxs | apply qb)) (e3:n3=r3.length:=by rfl) (h4:w.heap[g4]?=some (.cells (r4.map fun d:Nat=>Value.int .i64 d).toArray 3 (0,0)):=by repeat (first | exact qG zxs | apply qb)) (e4:n4=r4.length:=by rfl):RowsM w (some ⟨b,0,none⟩) [r1,r2,r3,r4] :=
 .of [(g1,n1),(g2,n2),(g3,n3),(g4,n4)] hb ⟨⟨e1,h1⟩,⟨e2,h2⟩,⟨e3,h3⟩,⟨e4,h4⟩,trivial⟩
theorem ro {rows:List (List Nat)} {may:Bool} {w w':World} {A:Option Addr} {n cap:Nat} (h:RowsM w' A rows) (hb:Below w.heap.size w w':=by repeat (first | exact zR _ | apply zA)) (hn:n=rows.length:=by rfl) :
  jd (rows,may) w (.returned (.tuple #[.slice A n cap,.bool may])) w':=by
 subst hn
 exact⟨⟨A,cap,rfl,h⟩,hb⟩
theorem qnX {W:World} {B:Nat} {v:Value} {gs:List (Nat×Nat)} (hown:Own JT 1 56 W B v gs) {b:Nat} {arr:Array Value} {T:TypeId} {fz:Nat×Nat} (h:W.heap[b]?=some (.cells arr T fz)) (hT:T≠56):some b≠v.ownBlock:=by
 intro e
 rcases hown.2 with⟨rfl,_⟩ | ⟨g,cap,cur,rfl,_,hgg,_⟩
 · cases e
 · cases e
   rw[h] at hgg;cases hgg;exact hT rfl
theorem qbr {W W':World} {B:Nat} {v:Value} {gs:List (Nat×Nat)} (hown:Own JT 1 56 W B v gs) (hg:W.grownBy W' v.ownBlock) {b:Nat} {arr:Array Value} {T:TypeId} {fz:Nat×Nat} (h:W.heap[b]?=some (.cells arr T fz)) (hT:T≠56):W'.heap[b]?=some (.cells arr T fz) :=
 (hg.block b (Array.getElem?_eq_some_iff.1 h).1 (qnX hown h hT)).trans h
theorem RowsAt.grown {W W':World} {B:Nat} {v:Value} {gs':List (Nat×Nat)} (hown:Own JT 1 56 W B v gs') (hg:W.grownBy W' v.ownBlock):∀ {gs:List (Nat×Nat)} {rows:List (List Nat)},RowsAt W gs rows→RowsAt W' gs rows
 | [],[],_=>trivial
 | _::_,_::_,h=>⟨⟨h.1.1,qbr hown hg h.1.2 zxd⟩,h.2.grown hown hg⟩
 | [],_::_,h=>h.elim
 | _::_,[],h=>h.elim
theorem qaL:(Tryz.prog.info? 56).map (fun i=>(i.zero,i.size,i.bytes))=some (some (.slice none 0 0),1,24):=by kernel_rfl
theorem qxc (f en a:Int) (n:BL) (l:List Tree) (A:Option Addr) (cap need:Nat) (head:Bool) (w:World):Calls Tryz.prog 45 #[(⟨4,f,en,a,qn n,A,l.length,cap⟩:RN).val,.int .i64 need,.bool head] w (jd (qX (.mk 4 f en a n l) need head) w):=by
 by_cases hn:need=5
 · have bn:((need:Int) == 5)=true:=beq_iff_eq.2 zxo
   have hv:qX (.mk 4 f en a n l) need head=([[7]],true):=by simp[qX,jh,Tree.kind,hn]
   exact qgZ
 · have bn:((need:Int) == 5)=false:=beq_eq_false_iff_ne.2 zxo
   have hv:qX (.mk 4 f en a n l) need head=([[8]],true):=by simp[qX,jh,Tree.kind,hn]
   exact qgZ
theorem qxC (f en a:Int) (n:BL) (l:List Tree) (A:Option Addr) (cap need:Nat) (head:Bool) (w:World):Calls Tryz.prog 45 #[(⟨7,f,en,a,qn n,A,l.length,cap⟩:RN).val,.int .i64 need,.bool head] w (jd (qX (.mk 7 f en a n l) need head) w):=by
 by_cases hn:need=5
 · have bn:((need:Int) == 5)=true:=beq_iff_eq.2 zxo
   have hv:qX (.mk 7 f en a n l) need head=([[7]],true):=by simp[qX,jh,Tree.kind,hn]
   exact qgZ
 · have bn:((need:Int) == 5)=false:=beq_eq_false_iff_ne.2 zxo
   have hv:qX (.mk 7 f en a n l) need head=([[8]],true):=by simp[qX,jh,Tree.kind,hn]
   exact qgZ
theorem qxg (f en a:Int) (n:BL) (l:List Tree) (A:Option Addr) (cap need:Nat) (head:Bool) (w:World):Calls Tryz.prog 45 #[(⟨5,f,en,a,qn n,A,l.length,cap⟩:RN).val,.int .i64 need,.bool head] w (jd (qX (.mk 5 f en a n l) need head) w):=by
 have hv:qX (.mk 5 f en a n l) need head=([[5,0],[6],[8,0],[10]],true):=by simp[qX,jh,Tree.kind]
 exact qra
theorem qxA (f en a:Int) (n:BL) (l:List Tree) (A:Option Addr) (cap need:Nat) (head:Bool) (w:World):Calls Tryz.prog 45 #[(⟨9,f,en,a,qn n,A,l.length,cap⟩:RN).val,.int .i64 need,.bool head] w (jd (qX (.mk 9 f en a n l) need head) w):=by
 have hv:qX (.mk 9 f en a n l) need head=([[17]],true):=by simp[qX,jh,Tree.kind]
 exact qbN
theorem qvg (f en a:Int) (n:BL) (l:List Tree) (A:Option Addr) (cap need:Nat) (head:Bool) (w:World):Calls Tryz.prog 45 #[(⟨14,f,en,a,qn n,A,l.length,cap⟩:RN).val,.int .i64 need,.bool head] w (jd (qX (.mk 14 f en a n l) need head) w):=by
 have hv:qX (.mk 14 f en a n l) need head=([[201],[10],[0,12,10]],true):=by simp[qX,jh,Tree.kind]
 rw[hv];clear hv
 unfold RN.val
 go_enter Tryz.func45,Tryz.ntmps45
 go_wp2_with (fail)
 all_goals (go_ret2;exact ro RowsM.of3)
theorem qvq (f en a:Int) (n:BL) (l:List Tree) (A:Option Addr) (cap need:Nat) (head:Bool) (w:World):Calls Tryz.prog 45 #[(⟨15,f,en,a,qn n,A,l.length,cap⟩:RN).val,.int .i64 need,.bool head] w (jd (qX (.mk 15 f en a n l) need head) w):=by
 have hv:qX (.mk 15 f en a n l) need head=([[1014,1015,0],[201,0],[1015,0],[10]],true):=by simp[qX,jh,Tree.kind]
 exact qra
theorem qvH (f en a:Int) (n:BL) (l:List Tree) (A:Option Addr) (cap need:Nat) (head:Bool) (w:World):Calls Tryz.prog 45 #[(⟨16,f,en,a,qn n,A,l.length,cap⟩:RN).val,.int .i64 need,.bool head] w (jd (qX (.mk 16 f en a n l) need head) w):=by
 have hv:qX (.mk 16 f en a n l) need head=([[13]],true):=by simp[qX,jh,Tree.kind]
 exact qbN
theorem qvo (f en a:Int) (n:BL) (l:List Tree) (A:Option Addr) (cap need:Nat) (head:Bool) (w:World):Calls Tryz.prog 45 #[(⟨29,f,en,a,qn n,A,l.length,cap⟩:RN).val,.int .i64 need,.bool head] w (jd (qX (.mk 29 f en a n l) need head) w):=by
 have hv:qX (.mk 29 f en a n l) need head=([[101]],true):=by simp[qX,jh,Tree.kind]
 exact qbN
theorem qvt (f en a:Int) (n:BL) (l:List Tree) (A:Option Addr) (cap need:Nat) (head:Bool) (w:World):Calls Tryz.prog 45 #[(⟨33,f,en,a,qn n,A,l.length,cap⟩:RN).val,.int .i64 need,.bool head] w (jd (qX (.mk 33 f en a n l) need head) w):=by
 have hv:qX (.mk 33 f en a n l) need head=([[101]],true):=by simp[qX,jh,Tree.kind]
 exact qbN
theorem qu9 (f en a:Int) (n:BL) (l:List Tree) (A:Option Addr) (cap need:Nat) (head:Bool) (w:World):Calls Tryz.prog 45 #[(⟨12,f,en,a,qn n,A,l.length,cap⟩:RN).val,.int .i64 need,.bool head] w (jd (qX (.mk 12 f en a n l) need head) w):=by
 cases head with
 | true =>
  have hv:qX (.mk 12 f en a n l) need true=([[201]],true):=by simp[qX,jh,Tree.kind]
  exact qbN
 | false =>
  have hv:qX (.mk 12 f en a n l) need false=([[101]],true):=by simp[qX,jh,Tree.kind]
  exact qbN
theorem qv9 (f en a:Int) (n:BL) (l:List Tree) (A:Option Addr) (cap need:Nat) (head:Bool) (w:World):Calls Tryz.prog 45 #[(⟨13,f,en,a,qn n,A,l.length,cap⟩:RN).val,.int .i64 need,.bool head] w (jd (qX (.mk 13 f en a n l) need head) w):=by
 cases head with
 | true =>
  have hv:qX (.mk 13 f en a n l) need true=([[16],[201]],true):=by simp[qX,jh,Tree.kind]
  exact qqb
 | false =>
  have hv:qX (.mk 13 f en a n l) need false=([[16],[101]],true):=by simp[qX,jh,Tree.kind]
  exact qqb
theorem qwg (f en a:Int) (n:BL) (l:List Tree) (A:Option Addr) (cap need:Nat) (head:Bool) (w:World):Calls Tryz.prog 45 #[(⟨20,f,en,a,qn n,A,l.length,cap⟩:RN).val,.int .i64 need,.bool head] w (jd (qX (.mk 20 f en a n l) need head) w):=by
 cases head with
 | true =>
  have hv:qX (.mk 20 f en a n l) need true=([[1018]],true):=by simp[qX,jh,Tree.kind]
  exact qbN
 | false =>
  have hv:qX (.mk 20 f en a n l) need false=([[18]],true):=by simp[qX,jh,Tree.kind]
  exact qbN
theorem quK (f en a:Int) (n:BL) (l:List Tree) (A:Option Addr) (cap need:Nat) (head:Bool) (w:World):Calls Tryz.prog 45 #[(⟨30,f,en,a,qn n,A,l.length,cap⟩:RN).val,.int .i64 need,.bool head] w (jd (qX (.mk 30 f en a n l) need head) w):=by
 cases head with
 | true =>
  have hv:qX (.mk 30 f en a n l) need true=([[206]],true):=by simp[qX,jh,Tree.kind]
  exact qbN
 | false =>
  have hv:qX (.mk 30 f en a n l) need false=([[106]],true):=by simp[qX,jh,Tree.kind]
  exact qbN
theorem qu0 (f en a:Int) (n:BL) (l:List Tree) (A:Option Addr) (cap need:Nat) (head:Bool) (w:World):Calls Tryz.prog 45 #[(⟨19,f,en,a,qn n,A,l.length,cap⟩:RN).val,.int .i64 need,.bool head] w (jd (qX (.mk 19 f en a n l) need head) w):=by
 by_cases hn:l.length=0
 · have bn:((l.length:Int) == 0)=true:=beq_iff_eq.2 zxo
   have hl:l=[]:=List.length_eq_zero_iff.1 hn
   have hv:qX (.mk 19 f en a n l) need head=([],true):=by simp[qX,jh,Tree.kind,Tree.kids,hl]
   rw[hv];clear hv
   clear hl hn
   unfold RN.val
   go_enter Tryz.func45,Tryz.ntmps45
   go_wp2_with (fail)
   all_goals (go_ret2;exact ro (RowsM.nil_ _ _))
 · have bn:((l.length:Int) == 0)=false:=beq_eq_false_iff_ne.2 zxo
   have hl:l≠[]:=fun e=>hn (by rw[e];rfl)
   have hv:qX (.mk 19 f en a n l) need head=([[101]],true):=by simp[qX,jh,Tree.kind,Tree.kids,hl]
   rw[hv];clear hv
   clear hl hn
   exact qsk
theorem qvZ (f en a:Int) (n:BL) (l:List Tree) (A:Option Addr) (cap need:Nat) (head:Bool) (w:World):Calls Tryz.prog 45 #[(⟨26,f,en,a,qn n,A,l.length,cap⟩:RN).val,.int .i64 need,.bool head] w (jd (qX (.mk 26 f en a n l) need head) w):=by
 by_cases hn:need=16
 · have bn:((need:Int) == 16)=true:=beq_iff_eq.2 zxo
   have hv:qX (.mk 26 f en a n l) need head=([[16]],true):=by simp[qX,jh,Tree.kind,hn]
   rw[hv];clear hv
   clear hn
   cases head with
   | true =>exact qsk
   | false =>exact qsk
 · have bn:((need:Int) == 16)=false:=beq_eq_false_iff_ne.2 zxo
   cases head with
   | true =>
    have hv:qX (.mk 26 f en a n l) need true=([[207]],true):=by simp[qX,jh,Tree.kind,hn]
    exact qgZ
   | false =>
    have hv:qX (.mk 26 f en a n l) need false=([[107]],true):=by simp[qX,jh,Tree.kind,hn]
    exact qgZ
theorem qjP (n:BL):jV n≤5:=by
 unfold jV
 split
 · rename_i i h
   have:=(List.findIdx?_eq_some_iff_getElem.1 h).1
   simp[levW] at this;omega
 · omega
theorem qvS (f en a:Int) (n:BL) (l:List Tree) (A:Option Addr) (cap need:Nat) (head:Bool) (w:World) (hl:0<jV n):Calls Tryz.prog 45 #[(⟨31,f,en,a,qn n,A,l.length,cap⟩:RN).val,.int .i64 need,.bool head] w (jd (qX (.mk 31 f en a n l) need head) w):=by
 have HL:=zxi (fun W=>qiJ (qn n) W)
 rw[qj] at HL
 have h5:=qjP n
 cases head with
 | true =>
  rcases (by omega:jV n=1∨jV n=2∨jV n=3∨jV n=4∨jV n=5) with h | h | h | h | h
  · have hv:qX (.mk 31 f en a n l) need true=([[201],[202]],true):=by simp[qX,jh,Tree.kind,Tree.name,h]
    exact qj3
  · have hv:qX (.mk 31 f en a n l) need true=([[202],[203]],true):=by simp[qX,jh,Tree.kind,Tree.name,h]
    exact qj3
  · have hv:qX (.mk 31 f en a n l) need true=([[203],[204]],true):=by simp[qX,jh,Tree.kind,Tree.name,h]
    exact qj3
  · have hv:qX (.mk 31 f en a n l) need true=([[204],[205]],true):=by simp[qX,jh,Tree.kind,Tree.name,h]
    exact qj3
  · have hv:qX (.mk 31 f en a n l) need true=([[205],[206]],true):=by simp[qX,jh,Tree.kind,Tree.name,h]
    exact qj3
 | false =>
  rcases (by omega:jV n=1∨jV n=2∨jV n=3∨jV n=4∨jV n=5) with h | h | h | h | h
  · have hv:qX (.mk 31 f en a n l) need false=([[101],[102]],true):=by simp[qX,jh,Tree.kind,Tree.name,h]
    exact qj3
  · have hv:qX (.mk 31 f en a n l) need false=([[102],[103]],true):=by simp[qX,jh,Tree.kind,Tree.name,h]
    exact qj3
  · have hv:qX (.mk 31 f en a n l) need false=([[103],[104]],true):=by simp[qX,jh,Tree.kind,Tree.name,h]
    exact qj3
  · have hv:qX (.mk 31 f en a n l) need false=([[104],[105]],true):=by simp[qX,jh,Tree.kind,Tree.name,h]
    exact qj3
  · have hv:qX (.mk 31 f en a n l) need false=([[105],[106]],true):=by simp[qX,jh,Tree.kind,Tree.name,h]
    exact qj3
def qnI (k:Int) (head:Bool) (i:Nat):List Nat:=if k=3 then [3] else if k=6 then [4] else if k=10 then [11] else if k=32 then [101] else if k=27 then (if i=0 then [if head then 1020 else 20] else [101]) else [if i=0 then 9 else 19]
theorem qb8 (k:Int) (head:Bool) (x:Tree):∀ (l:List Tree) (i:Nat),j8 k head i (l++[x])=j8 k head i l++[qnI k head (i+l.length)]
 | [],i=>rfl
 | y::l,i=>by
  rw[List.cons_append,j8,qb8 k head x l (i+1),j8,List.cons_append,List.length_cons,Nat.add_right_comm,Nat.add_assoc]
theorem qak {α:Type} {l:List α} {j:Nat} {x:α} (h:l[j]?=some x):l.take (j+1)=l.take j++[x]:=by
 rw[List.take_add_one,h];rfl
def qeV:Bool→List Tree→Bool
 | b,[]=>b
 | _,t::l=>qeV (decide (t.kind=2)) l
theorem qb0:∀ (l:List Tree) (b:Bool) (x:Tree),qeV b (l++[x])=decide (x.kind=2)
 | [],_,_=>rfl
 | _::l,_,x=>qb0 l _ x
theorem qca (x:Tree):∀ (l:List Tree) (b:Bool),Jg b (l++[x])=Jg b l++[if qeV b l&&decide (x.kind=2) then [1] else [2]]
 | [],b=>rfl
 | y::l,b=>by
  rw[List.cons_append,Jg,qca x l,Jg,List.cons_append,qeV]
theorem qoV {l:List Tree} {j:Nat} {p:Tree} (h:l[j]?=some p):qeV true (l.take (j+1))=decide (p.kind=2):=by
 rw[qak h,qb0]
def qP (k:Int) (head:Bool) (l:List Tree):List (List Nat):=if k=1 then Jg true l else if k=3∨k=6∨k=10∨k=32∨k=27∨k=28 then j8 k head 0 l else []
def qcf (k:Int):Prop:=k=4∨k=7∨k=5∨k=9∨k=11∨k=12∨k=13∨k=14∨k=15∨k=16∨k=19∨k=20∨k=26∨k=30∨k=31∨k=29∨k=33
theorem qhQ {k f en a:Int} {n:BL} {l:List Tree} {need:Nat} {head:Bool} (hk:¬ qcf k):qX (.mk k f en a n l) need head=(qP k head l,(decide (k≠27)&&decide (k≠28)) || !l.isEmpty):=by
 unfold qcf at hk
 simp only[not_or] at hk
 obtain⟨h4,h7,h5,h9,h11,h12,h13,h14,h15,h16,h19,h20,h26,h30,h31,h29,h33⟩:=hk
 have HS:(qP k head l,(decide (k≠27)&&decide (k≠28)) || !l.isEmpty)=qX (.mk k f en a n l) need head:=by
  by_cases h1:k=1
  · subst h1;rfl
  · by_cases h:k=3∨k=6∨k=10∨k=32∨k=27∨k=28
    · rw[qP,if_neg h1,if_pos h]
      rcases h with rfl | rfl | rfl | rfl | rfl | rfl<;>rfl
    · rw[qP,if_neg h1,if_neg h]
      simp only[not_or] at h
      obtain⟨g3,g6,g10,g32,g27,g28⟩:=h
      simp[qX,jh,Tree.kind, *]
 exact HS.symm
theorem jw {k:Int} {head:Bool} {l:List Tree} {j:Nat} {x:Tree} (hx:l[j]?=some x) (h:k=3∨k=6∨k=10∨k=32∨k=27∨k=28):qP k head (l.take (j+1))=qP k head (l.take j)++[qnI k head j]:=by
 have h1:k≠1:=by omega
 unfold qP
 rw[if_neg h1,if_neg h1,if_pos h,if_pos h,qak hx,qb8,Nat.zero_add,List.length_take,Nat.min_eq_left (by have:=(List.getElem?_eq_some_iff.1 hx).1;omega)]
theorem qgV {k:Int} {head:Bool} {l:List Tree} (h1:k≠1) (h:¬ (k=3∨k=6∨k=10∨k=32∨k=27∨k=28)):qP k head l=[]:=by
 unfold qP;rw[if_neg h1,if_neg h]
theorem Jv {head:Bool} {l:List Tree} {j:Nat} {x:Tree} (hx:l[j]?=some x):qP 1 head (l.take (j+1))=qP 1 head (l.take j)++[if qeV true (l.take j)&&decide (x.kind=2) then [1] else [2]]:=by
 unfold qP
 rw[if_pos rfl,if_pos rfl,qak hx,qca]
theorem qvU (f en a:Int) (n:BL) (l:List Tree) (A:Option Addr) (cap need:Nat) (head:Bool) (w:World) (hk:KidsM w w.heap.size A l):Calls Tryz.prog 45 #[(⟨11,f,en,a,qn n,A,l.length,cap⟩:RN).val,.int .i64 need,.bool head] w (jd (qX (.mk 11 f en a n l) need head) w):=by
 have HX:=zxi (heap_alloc_new w (qd ⟨11,f,en,a,qn n,A,l.length,cap⟩))
 have HB:=zxi ((Below.refl w.heap.size w).alloc zxn (qd ⟨11,f,en,a,qn n,A,l.length,cap⟩))
 have hk0:=hk.after zxn HB.out
 obtain⟨W0,hW0⟩:∃ W0,w.alloc (qd ⟨11,f,en,a,qn n,A,l.length,cap⟩)=W0:=⟨_,rfl⟩
 rw[hW0] at HX HB hk0
 clear hk
 by_cases h2:l.length=2
 · obtain⟨x,y,rfl⟩:∃ x y,l=[x,y]:=by
    match l,h2 with
    | [x,y],_=>exact⟨x,y,rfl⟩
   obtain⟨b,off,rx,rfl,hbb,hmx,c0,-,-,-,-,-⟩:=hk0.at (i:=0) rfl
   obtain⟨b',off',ry,hA,hbb',hmy,d0,-,-,-,-,-⟩:=hk0.at (i:=1) rfl
   cases hA
   simp only[Nat.zero_mul,Nat.add_zero,Nat.one_mul] at c0 d0
   have hkx:=hmx.kind
   have hky:=hmy.kind
   have HCC:=zxi (And.intro c0 (And.intro d0 hbb))
   rw[show qX (.mk 11 f en a n [x,y]) need head=([[8,0],[101,0]],decide (x.kind≠0)||decide (y.kind≠0)) from rfl,← hkx,← hky]
   clear hmx hmy hkx hky hk0 h2 c0 d0 hbb hbb'
   simp only[List.length_cons,List.length_nil,Nat.reduceAdd] at HX HB hW0 ⊢
   obtain⟨kx,hkx⟩:∃ k,rx.kind=k:=⟨_,rfl⟩
   obtain⟨ky,hky⟩:∃ k,ry.kind=k:=⟨_,rfl⟩
   rw[hkx,hky] at HCC ⊢
   clear hkx hky rx ry
   by_cases hx:kx=0
   · subst hx
     by_cases hy:ky=0
     · subst hy
       unfold RN.val
       go_enter Tryz.func45,Tryz.ntmps45
       go_wp2_with fail
       all_goals (
        rw[show w.alloc (.cells #[.int .i64 11,.int .i64 f,.int .i64 en,.int .i64 a,.string (qn n),.slice (some ⟨b,off,none⟩) 2 cap] 24)=W0 from hW0]
        have HKP:=zxi (fun W' (hBW:Below W0.heap.size W0 W')=>(show(zE W0 w.heap.size ⟨11,f,en,a,qn n,some ⟨b,off,none⟩,2,cap⟩ (fun w'=>w'.cell? ⟨b,off,none⟩=some (.int .i64 0)∧w'.cell? ⟨b,off+6,none⟩=some (.int .i64 0))) W' from by obtain⟨q0,q1,q2,q3,q4,q5,q6⟩:=qh HX.out hBW;exact⟨q0,q1,q2,q3,q4,q5,q6,(hBW.cell HCC.out.2.2).trans HCC.out.1,(hBW.cell HCC.out.2.2).trans HCC.out.2.1⟩))
        refine zHD HKP fun hHeld=>?_
        refine zTk 3 (h:=?_)
        refine zTk 4 (h:=?_)
        refine zTk 5 (h:=?_)
        refine zTk 6 (h:=?_)
        refine zTk 7 (h:=?_)
        refine zTk 8 (h:=?_)
        refine zTk 9 (h:=?_)
        refine zTk 10 (h:=?_)
        refine zTk 11 (h:=?_)
        refine zTk 12 (h:=?_)
        refine zTk 13 (h:=?_)
        refine zTk 14 (h:=?_)
        refine zTk 15 (h:=?_)
        refine zTk 16 (h:=?_)
        refine zTk 17 (h:=?_)
        refine zTk 18 (h:=?_)
        refine zTk 19 (h:=?_)
        refine zTk 20 (h:=?_)
        refine zTk 21 (h:=?_)
        refine zTk 22 (h:=?_)
        refine wpAnyH_ready (rs:=[0,1]) (by kernel_rfl) zxs ?_
        refine AllReadyH.cons (by rfl) (fun KK hKK=>?_) (AllReadyH.cons (by rfl) (fun KK hKK=>?_) AllReadyH.nil)
        · exact qkv
        · exact qkr
        )
     · have by1:(ky == 0)=false:=beq_eq_false_iff_ne.2 hy
       have by2:(ky != 0)=true:=by simp only[bne,by1];rfl
       rw[show(decide ((0:Int)≠0)||decide (ky≠0))=true by simp[hy]]
       clear hy
       unfold RN.val
       go_enter Tryz.func45,Tryz.ntmps45
       go_wp2_with fail
       all_goals (
        rw[show w.alloc (.cells #[.int .i64 11,.int .i64 f,.int .i64 en,.int .i64 a,.string (qn n),.slice (some ⟨b,off,none⟩) 2 cap] 24)=W0 from hW0]
        have HKP:=zxi (fun W' (hBW:Below W0.heap.size W0 W')=>(show(zE W0 w.heap.size ⟨11,f,en,a,qn n,some ⟨b,off,none⟩,2,cap⟩ (fun w'=>w'.cell? ⟨b,off,none⟩=some (.int .i64 0)∧w'.cell? ⟨b,off+6,none⟩=some (.int .i64 ky))) W' from by obtain⟨q0,q1,q2,q3,q4,q5,q6⟩:=qh HX.out hBW;exact⟨q0,q1,q2,q3,q4,q5,q6,(hBW.cell HCC.out.2.2).trans HCC.out.1,(hBW.cell HCC.out.2.2).trans HCC.out.2.1⟩))
        refine zHD HKP fun hHeld=>?_
        refine zTk 3 (h:=?_)
        refine zTk 4 (h:=?_)
        refine zTk 5 (h:=?_)
        refine zTk 6 (h:=?_)
        refine zTk 7 (h:=?_)
        refine zTk 8 (h:=?_)
        refine zTk 9 (h:=?_)
        refine zTk 10 (h:=?_)
        refine zTk 11 (h:=?_)
        refine zTk 12 (h:=?_)
        refine zTk 13 (h:=?_)
        refine zTk 14 (h:=?_)
        refine zTk 15 (h:=?_)
        refine zTk 16 (h:=?_)
        refine zTk 17 (h:=?_)
        refine zTk 18 (h:=?_)
        refine zTk 19 (h:=?_)
        refine zTk 20 (h:=?_)
        refine zTk 21 (h:=?_)
        refine zTk 22 (h:=?_)
        refine wpAnyH_ready (rs:=[0,1]) (by kernel_rfl) zxs ?_
        refine AllReadyH.cons (by rfl) (fun KK hKK=>?_) (AllReadyH.cons (by rfl) (fun KK hKK=>?_) AllReadyH.nil)
        · exact qkv
        · exact qkr
        )
   · have by1:(kx == 0)=false:=beq_eq_false_iff_ne.2 hx
     have by2:(kx != 0)=true:=by simp only[bne,by1];rfl
     rw[show(decide (kx≠0)||decide (ky≠0))=true by simp[hx]]
     clear hx
     unfold RN.val
     go_enter Tryz.func45,Tryz.ntmps45
     go_wp2_with fail
     all_goals (
      rw[show w.alloc (.cells #[.int .i64 11,.int .i64 f,.int .i64 en,.int .i64 a,.string (qn n),.slice (some ⟨b,off,none⟩) 2 cap] 24)=W0 from hW0]
      have HKP:=zxi (fun W' (hBW:Below W0.heap.size W0 W')=>(show(zE W0 w.heap.size ⟨11,f,en,a,qn n,some ⟨b,off,none⟩,2,cap⟩ (fun w'=>w'.cell? ⟨b,off,none⟩=some (.int .i64 kx)∧w'.cell? ⟨b,off+6,none⟩=some (.int .i64 ky))) W' from by obtain⟨q0,q1,q2,q3,q4,q5,q6⟩:=qh HX.out hBW;exact⟨q0,q1,q2,q3,q4,q5,q6,(hBW.cell HCC.out.2.2).trans HCC.out.1,(hBW.cell HCC.out.2.2).trans HCC.out.2.1⟩))
      refine zHD HKP fun hHeld=>?_
      refine zTk 3 (h:=?_)
      refine zTk 4 (h:=?_)
      refine zTk 5 (h:=?_)
      refine zTk 6 (h:=?_)
      refine zTk 7 (h:=?_)
      refine zTk 8 (h:=?_)
      refine zTk 9 (h:=?_)
      refine zTk 10 (h:=?_)
      refine zTk 11 (h:=?_)
      refine zTk 12 (h:=?_)
      refine zTk 13 (h:=?_)
      refine zTk 14 (h:=?_)
      refine zTn 15 (h:=?_)
      refine zTn 16 (h:=?_)
      refine zTn 17 (h:=?_)
      refine zTn 18 (h:=?_)
      refine zTn 19 (h:=?_)
      refine zTn 20 (h:=?_)
      refine zTk 21 (h:=?_)
      refine zTk 22 (h:=?_)
      refine wpAnyH_ready (rs:=[0,1]) (by kernel_rfl) zxs ?_
      refine AllReadyH.cons (by rfl) (fun KK hKK=>?_) (AllReadyH.cons (by rfl) (fun KK hKK=>?_) AllReadyH.nil)
      · exact qkv
      · exact qkr
      )
 · have b2:((l.length:Int) == 2)=false:=beq_eq_false_iff_ne.2 zxo
   have hv:qX (.mk 11 f en a n l) need head=([[8,0],[101,0]],false):=by
    show([[8,0],[101,0]],qmo l)=_
    match l,h2 with
    | [],_=>rfl
    | [_],_=>rfl
    | [_,_],h=>exact absurd rfl h
    | _::_::_::_,_=>rfl
   rw[hv]
   clear hv h2 hk0
   unfold RN.val
   go_enter Tryz.func45,Tryz.ntmps45
   go_wp2_with fail
   all_goals (
    rw[show w.alloc (.cells #[.int .i64 11,.int .i64 f,.int .i64 en,.int .i64 a,.string (qn n),.slice A l.length cap] 24)=W0 from hW0]
    have HKP:=zxi (fun W' (hBW:Below W0.heap.size W0 W')=>(show(zS W0 w.heap.size ⟨11,f,en,a,qn n,A,l.length,cap⟩) W' from by exact qh HX.out hBW))
    refine zHD HKP fun hHeld=>?_
    refine zTk 3 (h:=?_)
    refine zTk 4 (h:=?_)
    refine zTk 5 (h:=?_)
    refine zTk 6 (h:=?_)
    refine zTk 7 (h:=?_)
    refine zTn 8 (h:=?_)
    refine zTn 9 (h:=?_)
    refine zTn 10 (h:=?_)
    refine zTn 11 (h:=?_)
    refine zTn 12 (h:=?_)
    refine zTn 13 (h:=?_)
    refine zTn 14 (h:=?_)
    refine zTn 15 (h:=?_)
    refine zTn 16 (h:=?_)
    refine zTn 17 (h:=?_)
    refine zTn 18 (h:=?_)
    refine zTn 19 (h:=?_)
    refine zTn 20 (h:=?_)
    refine zTn 21 (h:=?_)
    refine zTk 22 (h:=?_)
    refine wpAnyH_ready (rs:=[0,1]) (by kernel_rfl) zxs ?_
    refine AllReadyH.cons (by rfl) (fun KK hKK=>?_) (AllReadyH.cons (by rfl) (fun KK hKK=>?_) AllReadyH.nil)
    · exact qkv
    · exact qkr
    )
end Go.Proofs.YtacdfjlncfidgaaGreatDoor
