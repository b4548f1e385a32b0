/- A part of what the claim leans on. -/
import Derived.Test.YtacdfjlncfidgaaGreatDoorQS
import Derived.Test.YtacdfjlncfidgaaGreatDoorTM
import Derived.Laws.EntriesVeiled
namespace Go.Proofs.YtacdfjlncfidgaaGreatDoor
open Go.RowKit
set_option linter.unusedVariables false
set_option linter.unusedSimpArgs false
set_option maxRecDepth 100000
set_option maxHeartbeats 6400000
def NodeR (T:Tree) (w:World) (e:Ending) (w':World):Prop:=(∃ r:RN,e = .returned r.val∧NodeM w' w'.heap.size T r)∧Below w.heap.size w w'
def QZ (k:Int) (s:ByteArray):RN:=⟨k,0,0,0,s,none,0,0⟩
theorem qeQ (w:World) (k:Int) (s:ByteArray):NodeM w w.heap.size (.mk k 0 0 0 s.data.toList []) (QZ k s):=by
 have:=NodeM.leaf w w.heap.size k 0 0 0 s.data.toList none 0
 rwa [jE] at this
theorem qrC (s:ByteArray) (w:World):Calls Tryz.prog 29 #[.string s] w (NodeR (.mk 25 0 0 0 s.data.toList []) w):=by
 have HL:=zxi (fun W=>qeQ W 25 s)
 unfold QZ at HL
 go_enter Tryz.func29,Tryz.ntmps29
 go_wp2_with fail
 refine bodyPost_ret (v:=(⟨25,0,0,0,s,none,0,0⟩:RN).val) (by unfold RN.val;simp[results,Tryz.f29,go_sem]) rfl ⟨⟨⟨25,0,0,0,s,none,0,0⟩,rfl,HL.out _⟩,?_⟩
 exact qt (Below.refl _ _)
theorem RowOf.there {α:Type} {cs:α→List Value} {sz:Nat} {l:List α} (hs:∀ x,(cs x).length=sz) {W:World} {arr:Array Value} {e:TypeId} {fz:Nat×Nat} {g:Nat} (hg:W.heap[g]?=some (.cells arr e fz)) (h:arr.toList=l.flatMap cs) :
  RowOf cs sz W W.heap.size (some ⟨g,0,none⟩) l:=by
 intro _
 refine⟨g,0,rfl,(Array.getElem?_eq_some_iff.1 hg).1,fun i x hx j u hu=>?_⟩
 have hf:=qcV hs l i x hx j u hu
 rw[cell_of_row _ _ _ _ _ _ hg,Nat.zero_add,← Array.getElem?_toList,h]
 exact hf
def Nodes (W:World):List Tree→List RN→Prop
 | [],[]=>True
 | t::l,r::rs=>NodeM W W.heap.size t r∧Nodes W l rs
 | _,_=>False
theorem Nodes.len {W:World}:∀ {l:List Tree} {rs:List RN},Nodes W l rs→rs.length=l.length
 | [],[],_=>rfl
 | _::l,_::rs,h=>by rw[List.length_cons,List.length_cons,Nodes.len h.2]
theorem Nodes.at {W:World}:∀ {l:List Tree} {rs:List RN},Nodes W l rs→∀ (i:Nat) (x:Tree) (r:RN),l[i]?=some x→rs[i]?=some r→NodeM W W.heap.size x r
 | [],[],_,i,x,r,hx,_=>by simp at hx
 | _::l,_::rs,h,0,x,r,hx,hr=>by cases hx;cases hr;exact h.1
 | _::l,_::rs,h,i+1,x,r,hx,hr=>Nodes.at h.2 i x r (by simpa using hx) (by simpa using hr)
theorem qmp {W:World} {arr:Array Value} {e:TypeId} {fz:Nat×Nat} {g:Nat} {l:List Tree} {rs:List RN} (hg:W.heap[g]?=some (.cells arr e fz)) (h:arr.toList=rs.flatMap RN.cells) (hn:Nodes W l rs) (k:Int) (n:ByteArray) (cap:Nat) (m:Nat) (hm:m=l.length) :
  NodeM W W.heap.size (.mk k 0 0 0 n.data.toList l) ⟨k,0,0,0,n,some ⟨g,0,none⟩,m,cap⟩:=by
 subst hm
 have:=NodeM.mk (w:=W) (B:=W.heap.size) k 0 0 0 n.data.toList l (some ⟨g,0,none⟩) cap rs (RowOf.there RN.len hg h) hn.len hn.at
 rwa [jE] at this
theorem qrR (t:Tree) (r:RN) (w:World) (hm:NodeM w w.heap.size t r):Calls Tryz.prog 31 #[r.val] w (NodeR (.mk 19 0 0 0 [] [t]) w):=by
 have HM:=zxi (fun W (hb:Below w.heap.size w W)=>hm.after zxn hb)
 clear hm
 unfold RN.val
 go_enter Tryz.func31,Tryz.ntmps31
 go_wp2_with fail
 refine bodyPost_ret (v:=(⟨19,0,0,0,⟨#[]⟩,some ⟨w.heap.size+1+1,0,none⟩,1,1⟩:RN).val) (by unfold RN.val;simp[results,Tryz.f31,go_sem];done) rfl ⟨⟨⟨19,0,0,0,⟨#[]⟩,some ⟨w.heap.size+1+1,0,none⟩,1,1⟩,rfl,qmp (rs:=[r]) (l:=[t]) (qG zxs) (by simp[RN.cells]) ⟨HM.out _ ?_,trivial⟩ 19 ⟨#[]⟩ 1 1 rfl⟩,?_⟩
 all_goals repeat (first | exact Below.refl _ _ | apply qt)
theorem qq6 (t:Tree) (r:RN) (w:World) (hm:NodeM w w.heap.size t r):Calls Tryz.prog 41 #[r.val] w (NodeR (.mk 33 0 0 0 [] [t]) w):=by
 have HM:=zxi (fun W (hb:Below w.heap.size w W)=>hm.after zxn hb)
 clear hm
 unfold RN.val
 go_enter Tryz.func41,Tryz.ntmps41
 go_wp2_with fail
 refine bodyPost_ret (v:=(⟨33,0,0,0,⟨#[]⟩,some ⟨w.heap.size+1+1,0,none⟩,1,1⟩:RN).val) (by unfold RN.val;simp[results,Tryz.f41,go_sem];done) rfl ⟨⟨⟨33,0,0,0,⟨#[]⟩,some ⟨w.heap.size+1+1,0,none⟩,1,1⟩,rfl,qmp (rs:=[r]) (l:=[t]) (qG zxs) (by simp[RN.cells]) ⟨HM.out _ ?_,trivial⟩ 33 ⟨#[]⟩ 1 1 rfl⟩,?_⟩
 all_goals repeat (first | exact Below.refl _ _ | apply qt)
theorem qwA (t:Tree) (r:RN) (s:ByteArray) (w:World) (hm:NodeM w w.heap.size t r):Calls Tryz.prog 40 #[r.val,.string s] w (NodeR (.mk 26 0 0 0 s.data.toList [t]) w):=by
 have HM:=zxi (fun W (hb:Below w.heap.size w W)=>hm.after zxn hb)
 clear hm
 unfold RN.val
 go_enter Tryz.func40,Tryz.ntmps40
 go_wp2_with fail
 refine bodyPost_ret (v:=(⟨26,0,0,0,s,some ⟨w.heap.size+1+1,0,none⟩,1,1⟩:RN).val) (by unfold RN.val;simp[results,Tryz.f40,go_sem];done) rfl ⟨⟨⟨26,0,0,0,s,some ⟨w.heap.size+1+1,0,none⟩,1,1⟩,rfl,qmp (rs:=[r]) (l:=[t]) (qG zxs) (by simp[RN.cells]) ⟨HM.out _ ?_,trivial⟩ 26 s 1 1 rfl⟩,?_⟩
 all_goals repeat (first | exact Below.refl _ _ | apply qt)
theorem qut (s:ByteArray) (a b:Tree) (ra rb:RN) (w:World) (ha:NodeM w w.heap.size a ra) (hb:NodeM w w.heap.size b rb):Calls Tryz.prog 32 #[.string s,ra.val,rb.val] w (NodeR (.mk 31 0 0 0 s.data.toList [a,b]) w):=by
 have HM:=zxi (fun W (h:Below w.heap.size w W)=>And.intro (ha.after zxn h) (hb.after zxn h))
 clear ha hb
 unfold RN.val
 go_enter Tryz.func32,Tryz.ntmps32
 go_wp2_with fail
 refine bodyPost_ret (v:=(⟨31,0,0,0,s,some ⟨w.heap.size+1+1+1,0,none⟩,2,2⟩:RN).val) (by unfold RN.val;simp[results,Tryz.f32,go_sem];done) rfl ⟨⟨⟨31,0,0,0,s,some ⟨w.heap.size+1+1+1,0,none⟩,2,2⟩,rfl,qmp (rs:=[ra,rb]) (l:=[a,b]) (qG zxs) (by simp[RN.cells]) ⟨(HM.out _ ?_).1,(HM.out _ ?_).2,trivial⟩ 31 s 2 2 rfl⟩,?_⟩
 all_goals repeat (first | exact Below.refl _ _ | apply qt)
theorem qw5 (w:World):Calls Tryz.prog 36 #[] w (NodeR qhh w):=by
 go_enter Tryz.func36,Tryz.ntmps36
 go_wp2_with fail
 refine bodyPost_ret (v:=(⟨28,0,0,0,⟨#[]⟩,some ⟨w.heap.size+1,0,none⟩,1,1⟩:RN).val) (by unfold RN.val;simp[results,Tryz.f36,go_sem];done) rfl ⟨⟨⟨28,0,0,0,⟨#[]⟩,some ⟨w.heap.size+1,0,none⟩,1,1⟩,rfl,qmp (rs:=[⟨8,0,0,0,⟨#[84]⟩,none,0,0⟩]) (l:=[.mk 8 0 0 0 [84] []]) (qG zxs) (by simp[RN.cells]) ⟨qeQ _ 8 ⟨#[84]⟩,trivial⟩ 28 ⟨#[]⟩ 1 1 rfl⟩,?_⟩
 all_goals repeat (first | exact Below.refl _ _ | apply qt)
theorem ql8 (A:Option Addr) (n c:Nat) (w:World):Calls Tryz.prog 51 #[.slice A n c] w fun e w'=>e = .returned (⟨10,0,0,0,⟨#[]⟩,A,n,c⟩:RN).val∧Below w.heap.size w w':=by
 go_enter Tryz.func51,Tryz.ntmps51
 go_wp2_with fail
 refine bodyPost_ret (v:=(⟨10,0,0,0,⟨#[]⟩,A,n,c⟩:RN).val) (by unfold RN.val;simp[results,Tryz.f51,go_sem];done) rfl ⟨rfl,?_⟩
 all_goals repeat (first | exact Below.refl _ _ | apply qt)
theorem qhI {w:World} {b:Nat} {x0 x1 x2 x3 x4 x5 y0 y1 y2 y3 y4 y5:Value} {T:TypeId} (h:w.heap[b]?=some (.cells #[y0,y1,y2,y3,y4,y5] T (0,0))) :
  ((((((w.setCell ⟨b,0,none⟩ x0).setCell ⟨b,1,none⟩ x1).setCell ⟨b,2,none⟩ x2).setCell ⟨b,3,none⟩ x3).setCell ⟨b,4,none⟩ x4).setCell ⟨b,5,none⟩ x5).heap[b]?=some (.cells #[x0,x1,x2,x3,x4,x5] T (0,0)):=by
 rw[qU (qU (qU (qU (qU (qU h)))))]
 rfl
theorem JX {w:World} {b k:Nat} {x0 x1 x2 x3 x4 x5:Value} (h:k≠b):((((((w.setCell ⟨b,0,none⟩ x0).setCell ⟨b,1,none⟩ x1).setCell ⟨b,2,none⟩ x2).setCell ⟨b,3,none⟩ x3).setCell ⟨b,4,none⟩ x4).setCell ⟨b,5,none⟩ x5).heap[k]?=w.heap[k]?:=by
 rw[qu h,qu h,qu h,qu h,qu h,qu h]
theorem qbG {w0 w:World} {B b:Nat} {x0 x1 x2 x3 x4 x5:Value} (h:Below B w0 w) (hb:B≤b):Below B w0 ((((((w.setCell ⟨b,0,none⟩ x0).setCell ⟨b,1,none⟩ x1).setCell ⟨b,2,none⟩ x2).setCell ⟨b,3,none⟩ x3).setCell ⟨b,4,none⟩ x4).setCell ⟨b,5,none⟩ x5) :=
 (((((h.setCell (p:=⟨b,0,none⟩) hb _).setCell (p:=⟨b,1,none⟩) hb _).setCell (p:=⟨b,2,none⟩) hb _).setCell (p:=⟨b,3,none⟩) hb _).setCell (p:=⟨b,4,none⟩) hb _).setCell (p:=⟨b,5,none⟩) hb _
theorem qo9 (l:List Tree) (A:Option Addr) (c:Nat) (w:World) (hk:KidsM w w.heap.size A l):Calls Tryz.prog 42 #[.slice A l.length c] w (NodeR (jL l) w):=by
 have HM:=zxi (fun W (h:Below w.heap.size w W)=>(hk.after zxn h).node 10 0 0 0 [] c)
 have HX:=zxi (heap_alloc_new w (.cells #[.int .i64 0,.int .i64 0,.int .i64 0,.int .i64 0,.string ⟨#[]⟩,.slice none 0 0] 24))
 have HB:=zxi (qt (o:=.cells #[.int .i64 0,.int .i64 0,.int .i64 0,.int .i64 0,.string ⟨#[]⟩,.slice none 0 0] 24) (Below.refl w.heap.size w))
 generalize hn:l.length=n at *
 clear hk hn
 go_enter Tryz.func42,Tryz.ntmps42
 go_wp2_with (go_at_call 51;refine(ql8 _ _ _ _).mono ?_;rintro e wA ⟨rfl,hbA⟩;unfold RN.val;obtain⟨W3,hW3⟩:∃ W3,((wA.alloc (.cells #[.int .i64 0,.int .i64 0,.int .i64 0,.int .i64 0,.string ⟨#[]⟩,.slice none 0 0,.int .i64 6,.int .i64 0,.int .i64 0,.int .i64 0,.string ⟨#[]⟩,.slice none 0 0,.int .i64 0,.int .i64 0,.int .i64 0,.int .i64 0,.string ⟨#[]⟩,.slice none 0 0,.int .i64 10,.int .i64 0,.int .i64 0,.int .i64 0,.string ⟨#[]⟩,.slice A n c] 24)).alloc (.cells #[.int .i64 5,.int .i64 0,.int .i64 0,.int .i64 0,.string ⟨#[102]⟩,.slice (some ⟨wA.heap.size,0,none⟩) 4 4] 24)).alloc (.cells #[.int .i64 5,.int .i64 0,.int .i64 0,.int .i64 0,.string ⟨#[102]⟩,.slice (some ⟨wA.heap.size,0,none⟩) 4 4] 24)=W3:=⟨_,rfl⟩;have H3:=zxi (qb (o':=.cells #[.int .i64 5,.int .i64 0,.int .i64 0,.int .i64 0,.string ⟨#[102]⟩,.slice (some ⟨wA.heap.size,0,none⟩) 4 4] 24) (qb (o':=.cells #[.int .i64 5,.int .i64 0,.int .i64 0,.int .i64 0,.string ⟨#[102]⟩,.slice (some ⟨wA.heap.size,0,none⟩) 4 4] 24) (qb (o':=.cells #[.int .i64 0,.int .i64 0,.int .i64 0,.int .i64 0,.string ⟨#[]⟩,.slice none 0 0,.int .i64 6,.int .i64 0,.int .i64 0,.int .i64 0,.string ⟨#[]⟩,.slice none 0 0,.int .i64 0,.int .i64 0,.int .i64 0,.int .i64 0,.string ⟨#[]⟩,.slice none 0 0,.int .i64 10,.int .i64 0,.int .i64 0,.int .i64 0,.string ⟨#[]⟩,.slice A n c] 24) (qg HX.out hbA))));have HR:=zxi (qb (o':=.cells #[.int .i64 5,.int .i64 0,.int .i64 0,.int .i64 0,.string ⟨#[102]⟩,.slice (some ⟨wA.heap.size,0,none⟩) 4 4] 24) (qb (o':=.cells #[.int .i64 5,.int .i64 0,.int .i64 0,.int .i64 0,.string ⟨#[102]⟩,.slice (some ⟨wA.heap.size,0,none⟩) 4 4] 24) (heap_alloc_new wA (.cells #[.int .i64 0,.int .i64 0,.int .i64 0,.int .i64 0,.string ⟨#[]⟩,.slice none 0 0,.int .i64 6,.int .i64 0,.int .i64 0,.int .i64 0,.string ⟨#[]⟩,.slice none 0 0,.int .i64 0,.int .i64 0,.int .i64 0,.int .i64 0,.string ⟨#[]⟩,.slice none 0 0,.int .i64 10,.int .i64 0,.int .i64 0,.int .i64 0,.string ⟨#[]⟩,.slice A n c] 24))));have HR1:=zxi (qG (w:=(wA.alloc (.cells #[.int .i64 0,.int .i64 0,.int .i64 0,.int .i64 0,.string ⟨#[]⟩,.slice none 0 0,.int .i64 6,.int .i64 0,.int .i64 0,.int .i64 0,.string ⟨#[]⟩,.slice none 0 0,.int .i64 0,.int .i64 0,.int .i64 0,.int .i64 0,.string ⟨#[]⟩,.slice none 0 0,.int .i64 10,.int .i64 0,.int .i64 0,.int .i64 0,.string ⟨#[]⟩,.slice A n c] 24)).alloc (.cells #[.int .i64 5,.int .i64 0,.int .i64 0,.int .i64 0,.string ⟨#[102]⟩,.slice (some ⟨wA.heap.size,0,none⟩) 4 4] 24)) (o:=.cells #[.int .i64 5,.int .i64 0,.int .i64 0,.int .i64 0,.string ⟨#[102]⟩,.slice (some ⟨wA.heap.size,0,none⟩) 4 4] 24) (g:=wA.heap.size+1+1) zxs);rw[hW3] at H3 HR HR1;have HB3:=zxi (show Below w.heap.size w W3 by rw[← hW3];exact qt (qt (qt (qa HB.out hbA))));have HS:=zxi hbA.size;obtain⟨e0,e1,e2,e3,e4,e5,ez,el⟩:=qD H3.out;clear hbA)
 have hne1:wA.heap.size+1+1≠w.heap.size:=by have h1:=HS.out;rw[World.size_alloc] at h1;omega
 have hne2:wA.heap.size≠w.heap.size:=by have h1:=HS.out;rw[World.size_alloc] at h1;omega
 refine bodyPost_ret (v:=(⟨1,0,0,0,⟨#[112]⟩,some ⟨wA.heap.size+1+1,0,none⟩,1,1⟩:RN).val) (results_cell_row (p:=2) rfl _ _ w.heap.size 24 _ (0,0) _ rfl (qhI H3.out) Tryz.underlying24 rfl (by kernel_rfl)) rfl ⟨⟨_,rfl,?_⟩,qbG HB3.out zxn⟩
 generalize hW4:(((((W3.setCell ⟨w.heap.size,0,none⟩ (.int .i64 1)).setCell ⟨w.heap.size,1,none⟩ (.int .i64 0)).setCell ⟨w.heap.size,2,none⟩ (.int .i64 0)).setCell ⟨w.heap.size,3,none⟩ (.int .i64 0)).setCell ⟨w.heap.size,4,none⟩ (.string ⟨#[112]⟩)).setCell ⟨w.heap.size,5,none⟩ (.slice (some ⟨wA.heap.size+1+1,0,none⟩) 1 1)=W4
 have hB4:Below w.heap.size w W4:=by rw[← hW4];exact qbG HB3.out zxn
 have h1:=(JX (x0:=.int .i64 1) (x1:=.int .i64 0) (x2:=.int .i64 0) (x3:=.int .i64 0) (x4:=.string ⟨#[112]⟩) (x5:=.slice (some ⟨wA.heap.size+1+1,0,none⟩) 1 1) (w:=W3) hne1).trans HR1.out
 have h2:=(JX (x0:=.int .i64 1) (x1:=.int .i64 0) (x2:=.int .i64 0) (x3:=.int .i64 0) (x4:=.string ⟨#[112]⟩) (x5:=.slice (some ⟨wA.heap.size+1+1,0,none⟩) 1 1) (w:=W3) hne2).trans HR.out
 rw[hW4] at h1 h2
 exact qmp (rs:=[⟨5,0,0,0,⟨#[102]⟩,some ⟨wA.heap.size,0,none⟩,4,4⟩]) (l:=[.mk 5 0 0 0 [102] [qaC,.mk 6 0 0 0 [] [],qaC,J2 l]]) h1 (by simp[RN.cells])
  ⟨qmp (rs:=[QZ 0 ⟨#[]⟩,QZ 6 ⟨#[]⟩,QZ 0 ⟨#[]⟩,⟨10,0,0,0,qn [],A,n,c⟩]) (l:=[qaC,.mk 6 0 0 0 [] [],qaC,J2 l]) h2 (by simp[RN.cells,QZ,qn]) ⟨qeQ _ 0 ⟨#[]⟩,qeQ _ 6 ⟨#[]⟩,qeQ _ 0 ⟨#[]⟩,HM.out _ hB4,trivial⟩ 5 ⟨#[102]⟩ 4 4 rfl,trivial⟩ 1 ⟨#[112]⟩ 1 1 rfl
theorem qhK {w w1 W':World} {b:Nat} {r:RN} (h0:Below w.heap.size w w1) (hx:w1.heap[b]?=some (qd r)) (hb:Below w1.heap.size w1 W') :
  Below w.heap.size w W'∧W'.cell? ⟨b,0,none⟩=some (.int .i64 r.kind)∧W'.cell? ⟨b,1,none⟩=some (.int .i64 r.fr)∧W'.cell? ⟨b,2,none⟩=some (.int .i64 r.en)∧W'.cell? ⟨b,3,none⟩=some (.int .i64 r.at_)∧W'.cell? ⟨b,4,none⟩=some (.string r.name)∧W'.cell? ⟨b,5,none⟩=some (.slice r.A r.n r.cap) :=
 ⟨qa h0 hb,(qh hx hb).2⟩
theorem qbu {w W':World} {b:Nat} {r:RN} (h0:Below w.heap.size w W') (hx:W'.heap[b]?=some (qd r)) :
  Below w.heap.size w W'∧W'.cell? ⟨b,0,none⟩=some (.int .i64 r.kind)∧W'.cell? ⟨b,1,none⟩=some (.int .i64 r.fr)∧W'.cell? ⟨b,2,none⟩=some (.int .i64 r.en)∧W'.cell? ⟨b,3,none⟩=some (.int .i64 r.at_)∧W'.cell? ⟨b,4,none⟩=some (.string r.name)∧W'.cell? ⟨b,5,none⟩=some (.slice r.A r.n r.cap) :=
 ⟨h0,(qh hx (Below.refl _ _)).2⟩
theorem qjZ (t:Tree) (r:RN) (w:World) (hm:NodeM w w.heap.size t r):Calls Tryz.prog 34 #[r.val] w (NodeR (qaF t) w):=by
 have HM:=zxi (fun W (hb:Below w.heap.size w W)=>hm.after zxn hb)
 have HX:=zxi (qb (o':=.cells #[.int .i64 0,.int .i64 0,.int .i64 0,.int .i64 0,.string ⟨#[]⟩,.slice none 0 0] 24) (heap_alloc_new w (qd r)))
 have HZ:=zxi (qG (w:=w.alloc (qd r)) (o:=.cells #[.int .i64 0,.int .i64 0,.int .i64 0,.int .i64 0,.string ⟨#[]⟩,.slice none 0 0] 24) (g:=w.heap.size+1) zxs)
 have HB:=zxi (qt (o:=.cells #[.int .i64 0,.int .i64 0,.int .i64 0,.int .i64 0,.string ⟨#[]⟩,.slice none 0 0] 24) (qt (o:=qd r) (Below.refl w.heap.size w)))
 have hsz:((w.alloc (qd r)).alloc (.cells #[.int .i64 0,.int .i64 0,.int .i64 0,.int .i64 0,.string ⟨#[]⟩,.slice none 0 0] 24)).heap.size=w.heap.size+2:=by simp[World.size_alloc]
 obtain⟨W1,hW1⟩:∃ W1,(w.alloc (qd r)).alloc (.cells #[.int .i64 0,.int .i64 0,.int .i64 0,.int .i64 0,.string ⟨#[]⟩,.slice none 0 0] 24)=W1:=⟨_,rfl⟩
 rw[hW1] at HX HZ HB hsz
 replace hsz:=zxi hsz
 clear hm
 unfold RN.val
 unfold qd at hW1
 go_enter Tryz.func34,Tryz.ntmps34
 go_wp2_with fail
 have HKP:=zxi (fun W' (hBW:Below W1.heap.size W1 W')=>(show zS w w.heap.size r W' from by exact qhK HB.out HX.out hBW))
 refine zHD HKP fun hHeld=>?_
 refine zTk 0 (h:=?_)
 refine zTk 2 (h:=?_)
 refine zRd 1 (h:=fun KK hKK=>?_)
 go_simp
 (refine(ql8 _ _ _ _).mono ?_;rintro e wA ⟨rfl,hbA'⟩;dsimp only[RN.val];have hbA:Below W1.heap.size W1 wA:=(by first | exact hbA' | exact qa (JU (Below.refl _ _)) hbA');clear hbA';have HS:=zxi hbA.size;obtain⟨W3,hW3⟩:∃ W3,wA.alloc (.cells #[.int .i64 r.kind,.int .i64 r.fr,.int .i64 r.en,.int .i64 r.at_,.string r.name,.slice r.A r.n r.cap,.int .i64 10,.int .i64 0,.int .i64 0,.int .i64 0,.string ⟨#[]⟩,.slice none 0 0,.int .i64 0,.int .i64 0,.int .i64 0,.int .i64 0,.string ⟨#[]⟩,.slice none 0 0] 24)=W3:=⟨_,rfl⟩;have H3:=zxi (qb (o':=.cells #[.int .i64 r.kind,.int .i64 r.fr,.int .i64 r.en,.int .i64 r.at_,.string r.name,.slice r.A r.n r.cap,.int .i64 10,.int .i64 0,.int .i64 0,.int .i64 0,.string ⟨#[]⟩,.slice none 0 0,.int .i64 0,.int .i64 0,.int .i64 0,.int .i64 0,.string ⟨#[]⟩,.slice none 0 0] 24) (qg HZ.out hbA));have HR:=zxi (heap_alloc_new wA (.cells #[.int .i64 r.kind,.int .i64 r.fr,.int .i64 r.en,.int .i64 r.at_,.string r.name,.slice r.A r.n r.cap,.int .i64 10,.int .i64 0,.int .i64 0,.int .i64 0,.string ⟨#[]⟩,.slice none 0 0,.int .i64 0,.int .i64 0,.int .i64 0,.int .i64 0,.string ⟨#[]⟩,.slice none 0 0] 24));have HX3:=zxi (qb (o':=.cells #[.int .i64 r.kind,.int .i64 r.fr,.int .i64 r.en,.int .i64 r.at_,.string r.name,.slice r.A r.n r.cap,.int .i64 10,.int .i64 0,.int .i64 0,.int .i64 0,.string ⟨#[]⟩,.slice none 0 0,.int .i64 0,.int .i64 0,.int .i64 0,.int .i64 0,.string ⟨#[]⟩,.slice none 0 0] 24) (qg HX.out hbA));have hb3:Below W1.heap.size W1 W3:=(by rw[← hW3];exact qt hbA);rw[hW3] at H3 HR HX3;obtain⟨z0,z1,z2,z3,z4,z5,zz,zl⟩:=qD H3.out;obtain⟨W4,hW4⟩:∃ W4,(((((W3.setCell ⟨w.heap.size+1,0,none⟩ (.int .i64 14)).setCell ⟨w.heap.size+1,1,none⟩ (.int .i64 0)).setCell ⟨w.heap.size+1,2,none⟩ (.int .i64 0)).setCell ⟨w.heap.size+1,3,none⟩ (.int .i64 0)).setCell ⟨w.heap.size+1,4,none⟩ (.string ⟨#[]⟩)).setCell ⟨w.heap.size+1,5,none⟩ (.slice (some ⟨wA.heap.size,0,none⟩) 3 3)=W4:=⟨_,rfl⟩;have HB4:=zxi (show Below w.heap.size w W4 by rw[← hW4];exact qbG (qa HB.out hb3) zxo);have HX4:=zxi (show W4.heap[w.heap.size]?=some (qd r) by rw[← hW4,JX zxo];exact HX3.out);have HZ4:=zxi (show W4.heap[w.heap.size+1]?=some (.cells #[.int .i64 14,.int .i64 0,.int .i64 0,.int .i64 0,.string ⟨#[]⟩,.slice (some ⟨wA.heap.size,0,none⟩) 3 3] 24 (0,0)) by rw[← hW4];exact qhI H3.out);have HR4:=zxi (show W4.heap[wA.heap.size]?=some (.cells #[.int .i64 r.kind,.int .i64 r.fr,.int .i64 r.en,.int .i64 r.at_,.string r.name,.slice r.A r.n r.cap,.int .i64 10,.int .i64 0,.int .i64 0,.int .i64 0,.string ⟨#[]⟩,.slice none 0 0,.int .i64 0,.int .i64 0,.int .i64 0,.int .i64 0,.string ⟨#[]⟩,.slice none 0 0] 24) by rw[← hW4,JX (by have h1:=HS.out;have h2:=hsz.out;omega)];exact HR.out))
 (try go_wp2_with fail)
 refine hKK.out _ _ (by first | exact qbu HB4.out HX4.out | exact(zb HKP)) (fun hHeld2=>?_);clear hKK KK hHeld;rename _=>hHeld
 (try simp only[Act.put,zSa,zSb,zSc])
 refine zRd 3 (h:=fun KK hKK=>?_)
 go_simp
 refine hKK.out _ _ (by first | exact qbu HB4.out HX4.out | exact(zb HKP)) (fun hHeld2=>?_);clear hKK KK hHeld;rename _=>hHeld
 (try simp only[Act.put,zSa,zSb,zSc])
 refine zTk 4 (h:=?_)
 refine zRd 5 (h:=fun KK hKK=>?_)
 go_simp
 refine hKK.out _ _ (by first | exact qbu HB4.out HX4.out | exact(zb HKP)) (fun hHeld2=>?_);clear hKK KK hHeld;rename _=>hHeld
 (try simp only[Act.put,zSa,zSb,zSc])
 refine wpAnyH_done (by kernel_rfl) ?_ _
 go_wp2_with fail
 refine bodyPost_ret (v:=(⟨14,0,0,0,⟨#[]⟩,some ⟨wA.heap.size,0,none⟩,3,3⟩:RN).val) (results_cell_row (p:=2) rfl _ _ (w.heap.size+1) 24 _ (0,0) _ rfl (by first | (rw[hW4];exact HZ4.out) | exact HZ4.out) Tryz.underlying24 rfl (by kernel_rfl)) rfl ⟨⟨_,rfl,?_⟩,by first | (rw[hW4];exact HB4.out) | exact HB4.out⟩
 try rw[hW4]
 exact qmp (rs:=[r,QZ 10 ⟨#[]⟩,QZ 0 ⟨#[]⟩]) (l:=[t,J2 [],qaC]) HR4.out (by simp[RN.cells,QZ]) ⟨HM.out _ HB4.out,qeQ _ 10 ⟨#[]⟩,qeQ _ 0 ⟨#[]⟩,trivial⟩ 14 ⟨#[]⟩ 3 3 rfl
theorem qxy (t:Tree) (r:RN) (w:World) (hm:NodeM w w.heap.size t r) (hf:qbL t):Calls Tryz.prog 11 #[r.val] w fun e w'=>e = .returned (.bool (decide (0<QQ 3000 t)))∧Below w.heap.size w w':=by
 have HT:=zxi (qvD t r (w.alloc (qd r)) 3000 (hm.boxed zxn _) hf zxo (Int.le_refl _))
 have HB:=zxi (qt (o:=qd r) (Below.refl w.heap.size w))
 generalize QQ 3000 t=d at *
 clear hm hf
 unfold RN.val at HT ⊢
 by_cases hd:0<d
 · have p2:decide (0<d)=true:=decide_eq_true hd
   exact qtR
 · have p2:decide (0<d)=false:=decide_eq_false hd
   exact qtR
theorem NodeR.below {T:Tree} {w:World} {e:Ending} {w':World} (h:NodeR T w e w'):Below w.heap.size w w':=h.2
theorem qw9 (t:Tree) (r:RN) (w:World) (hG:LexG w) (hm:NodeM w w.heap.size t r) (hc:qY (jL [t])≤3000) :
  Calls Tryz.prog 30 #[r.val] w fun e w'=>e = .returned (.bool (decide (jY qc qw (jL [t])=0)))∧Below w.heap.size w w':=by
 have hG0:=(hG.alloc (qd r)).alloc (qd r)
 have hrow:=qG (w:=w.alloc (qd r)) (o:=qd r) (g:=w.heap.size+1) zxs
 have hm2:=hm.boxed2 (qd r) (qd r)
 have HB:=zxi (Jk w (qd r) (qd r))
 have HT:=zxi (qo9 [t] (some ⟨w.heap.size+1,0,none⟩) 1 ((w.alloc (qd r)).alloc (qd r)) ⟨[r],RowOf.there RN.len hrow (by simp[RN.cells]),rfl,fun i x ry hx hr=>by
  cases i with
  | zero=>cases hx;cases hr;exact hm2
  | succ i=>simp at hx⟩)
 obtain⟨W0,hW0⟩:∃ W0,(w.alloc (qd r)).alloc (qd r)=W0:=⟨_,rfl⟩
 rw[hW0] at hG0 HB HT
 have HC:=zxi (fun W (hb:Below W0.heap.size W0 W) rb (hm:NodeM W W.heap.size (jL [t]) rb)=>qh8 (jL [t]) rb W (hG0.below hb) hm hc)
 generalize jY qc qw (jL [t])=C at *
 clear hm hG hc hrow hm2 hG0
 unfold RN.val at HC ⊢
 unfold qd at hW0
 by_cases hd:C=0
 · subst hd
   go_enter Tryz.func30,Tryz.ntmps30
   exact qrU
 · have p2:decide (C=0)=false:=decide_eq_false hd
   have p3:(C == 0)=false:=by simp[hd]
   rw[p2]
   clear hd
   go_enter Tryz.func30,Tryz.ntmps30
   exact qtU
theorem aNo (t:Tree) (r:RN) (w:World) (hG:LexG w) (hm:NodeM w w.heap.size t r) (hc:qY (jL [t])≤3000) :
  Calls Tryz.prog 33 #[r.val] w fun e w'=>e = .returned (.bool (decide (jY qc qw (jL [t])=4)))∧Below w.heap.size w w':=by
 have hG0:=(hG.alloc (qd r)).alloc (qd r)
 have hrow:=qG (w:=w.alloc (qd r)) (o:=qd r) (g:=w.heap.size+1) zxs
 have hm2:=hm.boxed2 (qd r) (qd r)
 have HB:=zxi (Jk w (qd r) (qd r))
 have HT:=zxi (qo9 [t] (some ⟨w.heap.size+1,0,none⟩) 1 ((w.alloc (qd r)).alloc (qd r)) ⟨[r],RowOf.there RN.len hrow (by simp[RN.cells]),rfl,fun i x ry hx hr=>by
  cases i with
  | zero=>cases hx;cases hr;exact hm2
  | succ i=>simp at hx⟩)
 obtain⟨W0,hW0⟩:∃ W0,(w.alloc (qd r)).alloc (qd r)=W0:=⟨_,rfl⟩
 rw[hW0] at hG0 HB HT
 have HC:=zxi (fun W (hb:Below W0.heap.size W0 W) rb (hm:NodeM W W.heap.size (jL [t]) rb)=>qh8 (jL [t]) rb W (hG0.below hb) hm hc)
 generalize jY qc qw (jL [t])=C at *
 clear hm hG hc hrow hm2 hG0
 unfold RN.val at HC ⊢
 unfold qd at hW0
 by_cases hd:C=4
 · subst hd
   go_enter Tryz.func33,Tryz.ntmps33
   exact qrU
 · have p2:decide (C=4)=false:=decide_eq_false hd
   have p3:(C == 4)=false:=by simp[hd]
   rw[p2]
   clear hd
   go_enter Tryz.func33,Tryz.ntmps33
   exact qtU
theorem quy:qc [120]=true:=by decide +kernel
theorem qux:qc [112]=true:=by decide +kernel
theorem quA:qc [102]=true:=by decide +kernel
theorem quB:qc [97]=true:=by decide +kernel
theorem quv:qc [84]=true:=by decide +kernel
theorem qmc {W0:World} (hG0:LexG W0) {t:Tree} (hc:qY (jL [t])≤3000) (hv:jY qc qw (jL [t])=0) (W:World) (hb:Below W0.heap.size W0 W) (r:RN) (hm:NodeM W W.heap.size t r) :
  Calls Tryz.prog 30 #[r.val] W fun e w'=>e = .returned (.bool true)∧Below W.heap.size W w':=by
 have h:=qw9 t r W (hG0.below hb) hm hc
 rw[hv] at h
 exact h
theorem qq5 {W0:World} (hG0:LexG W0) {t:Tree} (hc:qY (jL [t])≤3000) (hv:jY qc qw (jL [t])=4) (W:World) (hb:Below W0.heap.size W0 W) (r:RN) (hm:NodeM W W.heap.size t r) :
  Calls Tryz.prog 33 #[r.val] W fun e w'=>e = .returned (.bool true)∧Below W.heap.size W w':=by
 have h:=aNo t r W (hG0.below hb) hm hc
 rw[hv] at h
 exact h
theorem qsB (w:World) (hG:LexG w):Calls Tryz.prog 12 #[] w fun e w'=>e = .returned (.bool true)∧Below w.heap.size w w':=by
 have HG:=zxi hG
 clear hG
 go_enter Tryz.func12,Tryz.ntmps12
 go_wp2_with (go_at_call 29;refine(qrC _ _).mono ?_;rintro e wA ⟨⟨r,rfl,hm⟩,hbA⟩;unfold RN.val)
 obtain⟨W0,hW0⟩:∃ W0,wA.alloc (qd r)=W0:=⟨_,rfl⟩
 have HX:=zxi (heap_alloc_new wA (qd r))
 have HB:=zxi (qt (o:=qd r) (Below.refl wA.heap.size wA))
 have hm0:NodeM W0 W0.heap.size xT r:=by rw[← hW0];exact hm.boxed zxn _
 rw[hW0] at HX HB
 have hG0:LexG W0:=(HG.out.below hbA).below HB.out
 have HXM:=zxi (fun W (hb:Below W0.heap.size W0 W)=>hm0.after zxn hb)
 have HW1:=zxi (qmc hG0 zxd (qrh qc qw quy qux quA quB quv))
 have HW2:=zxi (qq5 hG0 zxd (qqq qc qw quy qux quA quB quv))
 have HW3:=zxi (qq5 hG0 zxd (qr9 qc qw quy qux quA quB quv))
 have HW4:=zxi (qmc hG0 zxd (qqo qc qw quy qux quA quB quv))
 clear hG0 hm0 hm
 rw[show wA.alloc (.cells #[.int .i64 r.kind,.int .i64 r.fr,.int .i64 r.en,.int .i64 r.at_,.string r.name,.slice r.A r.n r.cap] 24)=W0 from hW0]
 have HKP:=zxi (fun W' (hBW:Below W0.heap.size W0 W')=>(show zS W0 wA.heap.size r W' from by exact qh HX.out hBW))
 refine zHD HKP fun hHeld=>?_
 refine zTk 0 (h:=?_)
 refine zTk 1 (h:=?_)
 refine zTk 2 (h:=?_)
 refine zRd 3 (h:=fun KK hKK=>?_)
 go_simp
 (refine(qut ⟨#[42]⟩ xT xT r r _ (zb HXM) (zb HXM)).mono ?_;rintro e w1 ⟨⟨r1,rfl,hm1⟩,hb1⟩;unfold RN.val)
 (try go_wp2_with fail)
 refine zKK hKK HKP fun hHeld2=>?_;clear hKK KK hHeld;rename _=>hHeld
 refine zRd 4 (h:=fun KK hKK=>?_)
 go_simp
 (refine(qut ⟨#[43]⟩ xT (qeR [42] xT xT) r r1 _ (zb HXM) (hm1.after zxn zxq)).mono ?_;rintro e w2 ⟨⟨r2,rfl,hm2⟩,hb2⟩;unfold RN.val)
 (try go_wp2_with fail)
 refine zKK hKK HKP fun hHeld2=>?_;clear hKK KK hHeld;rename _=>hHeld
 refine zRd 5 (h:=fun KK hKK=>?_)
 go_simp
 (refine(qrR (qeR [43] xT (qeR [42] xT xT)) r2 _ (hm2.after zxn zxq)).mono ?_;rintro e w3 ⟨⟨r3,rfl,hm3⟩,hb3⟩;unfold RN.val)
 (try go_wp2_with fail)
 refine zKK hKK HKP fun hHeld2=>?_;clear hKK KK hHeld;rename _=>hHeld
 refine zRd 6 (h:=fun KK hKK=>?_)
 go_simp
 (refine((zb HW1) r3 (hm3.after zxn zxq)).mono ?_;rintro e w4 ⟨rfl,hb4⟩)
 (try go_wp2_with fail)
 refine zKK hKK HKP fun hHeld2=>?_;clear hKK KK hHeld;rename _=>hHeld
 refine zTk 7 (h:=?_)
 refine zTk 8 (h:=?_)
 refine zTk 9 (h:=?_)
 refine zTk 11 (h:=?_)
 refine zRd 10 (h:=fun KK hKK=>?_)
 go_simp
 (refine(qut ⟨#[43]⟩ xT xT r r _ (zb HXM) (zb HXM)).mono ?_;rintro e w5 ⟨⟨r5,rfl,hm5⟩,hb5⟩;unfold RN.val)
 (try go_wp2_with fail)
 refine zKK hKK HKP fun hHeld2=>?_;clear hKK KK hHeld;rename _=>hHeld
 refine zRd 12 (h:=fun KK hKK=>?_)
 go_simp
 (refine(qut ⟨#[42]⟩ (qeR [43] xT xT) xT r5 r _ (hm5.after zxn zxq) (zb HXM)).mono ?_;rintro e w6 ⟨⟨r6,rfl,hm6⟩,hb6⟩;unfold RN.val)
 (try go_wp2_with fail)
 refine zKK hKK HKP fun hHeld2=>?_;clear hKK KK hHeld;rename _=>hHeld
 refine zRd 13 (h:=fun KK hKK=>?_)
 go_simp
 (refine(qrR (qeR [42] (qeR [43] xT xT) xT) r6 _ (hm6.after zxn zxq)).mono ?_;rintro e w7 ⟨⟨r7,rfl,hm7⟩,hb7⟩;unfold RN.val)
 (try go_wp2_with fail)
 refine zKK hKK HKP fun hHeld2=>?_;clear hKK KK hHeld;rename _=>hHeld
 refine zRd 14 (h:=fun KK hKK=>?_)
 go_simp
 (refine((zb HW2) r7 (hm7.after zxn zxq)).mono ?_;rintro e w8 ⟨rfl,hb8⟩)
 (try go_wp2_with fail)
 refine zKK hKK HKP fun hHeld2=>?_;clear hKK KK hHeld;rename _=>hHeld
 refine zTk 15 (h:=?_)
 refine zTk 16 (h:=?_)
 refine zRd 17 (h:=fun KK hKK=>?_)
 go_simp
 (refine(qw5 _).mono ?_;rintro e w9 ⟨⟨r9,rfl,hm9⟩,hb9⟩;unfold RN.val)
 (try go_wp2_with fail)
 refine zKK hKK HKP fun hHeld2=>?_;clear hKK KK hHeld;rename _=>hHeld
 refine zRd 18 (h:=fun KK hKK=>?_)
 go_simp
 (refine(qwA qhh r9 ⟨#[97]⟩ _ (hm9.after zxn zxq)).mono ?_;rintro e w10 ⟨⟨r10,rfl,hm10⟩,hb10⟩;unfold RN.val)
 (try go_wp2_with fail)
 refine zKK hKK HKP fun hHeld2=>?_;clear hKK KK hHeld;rename _=>hHeld
 refine zRd 19 (h:=fun KK hKK=>?_)
 go_simp
 (refine(qjZ (qo1 qhh [97]) r10 _ (hm10.after zxn zxq)).mono ?_;rintro e w11 ⟨⟨r11,rfl,hm11⟩,hb11⟩;unfold RN.val)
 (try go_wp2_with fail)
 refine zKK hKK HKP fun hHeld2=>?_;clear hKK KK hHeld;rename _=>hHeld
 refine zRd 20 (h:=fun KK hKK=>?_)
 go_simp
 (refine((zb HW3) r11 (hm11.after zxn zxq)).mono ?_;rintro e w12 ⟨rfl,hb12⟩)
 (try go_wp2_with fail)
 refine zKK hKK HKP fun hHeld2=>?_;clear hKK KK hHeld;rename _=>hHeld
 refine zTk 21 (h:=?_)
 refine zTk 22 (h:=?_)
 refine zRd 23 (h:=fun KK hKK=>?_)
 go_simp
 (refine(qw5 _).mono ?_;rintro e w13 ⟨⟨r13,rfl,hm13⟩,hb13⟩;unfold RN.val)
 (try go_wp2_with fail)
 refine zKK hKK HKP fun hHeld2=>?_;clear hKK KK hHeld;rename _=>hHeld
 refine zRd 24 (h:=fun KK hKK=>?_)
 go_simp
 (refine(qq6 qhh r13 _ (hm13.after zxn zxq)).mono ?_;rintro e w14 ⟨⟨r14,rfl,hm14⟩,hb14⟩;unfold RN.val)
 (try go_wp2_with fail)
 refine zKK hKK HKP fun hHeld2=>?_;clear hKK KK hHeld;rename _=>hHeld
 refine zRd 25 (h:=fun KK hKK=>?_)
 go_simp
 (refine(qwA (qc4 qhh) r14 ⟨#[97]⟩ _ (hm14.after zxn zxq)).mono ?_;rintro e w15 ⟨⟨r15,rfl,hm15⟩,hb15⟩;unfold RN.val)
 (try go_wp2_with fail)
 refine zKK hKK HKP fun hHeld2=>?_;clear hKK KK hHeld;rename _=>hHeld
 refine zRd 26 (h:=fun KK hKK=>?_)
 go_simp
 (refine(qjZ (qo1 (qc4 qhh) [97]) r15 _ (hm15.after zxn zxq)).mono ?_;rintro e w16 ⟨⟨r16,rfl,hm16⟩,hb16⟩;unfold RN.val)
 (try go_wp2_with fail)
 refine zKK hKK HKP fun hHeld2=>?_;clear hKK KK hHeld;rename _=>hHeld
 refine zRd 27 (h:=fun KK hKK=>?_)
 go_simp
 (refine((zb HW4) r16 (hm16.after zxn zxq)).mono ?_;rintro e w17 ⟨rfl,hb17⟩)
 (try go_wp2_with fail)
 refine zKK hKK HKP fun hHeld2=>?_;clear hKK KK hHeld;rename _=>hHeld
 refine zTk 28 (h:=?_)
 refine zTk 29 (h:=?_)
 refine zRd 30 (h:=fun KK hKK=>?_)
 go_simp
 (refine(qo9 [] none 0 _ ⟨[],RowOf.nil_,rfl,fun i x r hx _=>by simp at hx⟩).mono ?_;rintro e w18 ⟨⟨r18,rfl,hm18⟩,hb18⟩;unfold RN.val)
 (try go_wp2_with fail)
 refine zKK hKK HKP fun hHeld2=>?_;clear hKK KK hHeld;rename _=>hHeld
 refine zRd 31 (h:=fun KK hKK=>?_)
 go_simp
 (refine(qi2 (jL []) r18 _ (hm18.after zxn zxq) zxd).mono ?_;rintro e w19 ⟨rfl,hb19⟩;rw[show jc (jL [])=3 from by decide])
 (try go_wp2_with fail)
 refine zKK hKK HKP fun hHeld2=>?_;clear hKK KK hHeld;rename _=>hHeld
 refine zTk 32 (h:=?_)
 refine zTk 33 (h:=?_)
 refine zTk 34 (h:=?_)
 refine zTk 35 (h:=?_)
 refine zRd 36 (h:=fun KK hKK=>?_)
 go_simp
 (refine(qrC ⟨#[120]⟩ _).mono ?_;rintro e w20 ⟨⟨r20,rfl,hm20⟩,hb20⟩;unfold RN.val)
 (try go_wp2_with fail)
 refine zKK hKK HKP fun hHeld2=>?_;clear hKK KK hHeld;rename _=>hHeld
 refine zRd 37 (h:=fun KK hKK=>?_)
 go_simp
 (refine(qv2 xT xT r r20 _ (zb HXM) (hm20.after zxn zxq) zxd).mono ?_;rintro e w21 ⟨rfl,hb21⟩;rw[show qaS xT xT=true from by decide])
 (try go_wp2_with fail)
 refine zKK hKK HKP fun hHeld2=>?_;clear hKK KK hHeld;rename _=>hHeld
 refine zTk 38 (h:=?_)
 refine zTk 39 (h:=?_)
 refine wpAnyH_done (by kernel_rfl) ?_ _
 have HE:=qa hbA (qa HB.out hHeld.1)
 clear hHeld
 go_wp2_with fail
 go_ret
 exact⟨rfl,HE⟩
end Go.Proofs.YtacdfjlncfidgaaGreatDoor
