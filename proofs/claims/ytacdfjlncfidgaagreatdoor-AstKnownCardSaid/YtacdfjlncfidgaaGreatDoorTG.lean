/- A part of what the claim leans on. -/
import Derived.Test.YtacdfjlncfidgaaGreatDoorQS
import Derived.Test.YtacdfjlncfidgaaGreatDoorTF
import Derived.Laws.EntriesVeiled
namespace Go.Proofs.YtacdfjlncfidgaaGreatDoor
open Go.RowKit
set_option linter.unusedVariables false
set_option linter.unusedSimpArgs false
set_option maxRecDepth 100000
set_option maxHeartbeats 6400000
def EV (w:World) (lb:Array Value) (k:Int) (head:Bool):Prop :=
 ∃ b0 b1 b2 b3,lb=#[.pointer (some ⟨b0,0,none⟩),.pointer (some ⟨b1,0,none⟩),.pointer (some ⟨b2,0,none⟩),.pointer (some ⟨b3,0,none⟩)] ∧
  w.heap[b0]?=some (.cells #[.int .i64 k] 3 (0,0))∧w.heap[b1]?=some (.cells #[.bool head] 4 (0,0))∧w.heap[b2]?=some (.cells #[.func (.func 110) #[] #[]] 25 (0,0))∧w.heap[b3]?=some (.cells #[.func (.func 111) #[] #[.pointer (some ⟨b1,0,none⟩)]] 25 (0,0))
theorem EV.later {w w':World} {lb:Array Value} {k:Int} {head:Bool} (h:EV w lb k head) (hb:Below w.heap.size w w'):EV w' lb k head:=by
 obtain⟨b0,b1,b2,b3,e,h0,h1,h2,h3⟩:=h
 exact⟨b0,b1,b2,b3,e,qg h0 hb,qg h1 hb,qg h2 hb,qg h3 hb⟩
def eW (w:World) (k:Int) (head:Bool):World:=(((w.alloc (.cells #[.int .i64 k] 3)).alloc (.cells #[.bool head] 4)).alloc (.cells #[.func (.func 110) #[] #[]] 25)).alloc (.cells #[.func (.func 111) #[] #[.pointer (some ⟨w.heap.size+1,0,none⟩)]] 25)
theorem qvJ (w:World) (k:Int) (head:Bool):EV (eW w k head) #[.pointer (some ⟨w.heap.size,0,none⟩),.pointer (some ⟨w.heap.size+1,0,none⟩),.pointer (some ⟨w.heap.size+1+1,0,none⟩),.pointer (some ⟨w.heap.size+1+1+1,0,none⟩)] k head:=by
 have h0:=heap_alloc_new w (.cells #[.int .i64 k] 3)
 have h1:=heap_alloc_new (w.alloc (.cells #[.int .i64 k] 3)) (.cells #[.bool head] 4)
 have h2:=heap_alloc_new ((w.alloc (.cells #[.int .i64 k] 3)).alloc (.cells #[.bool head] 4)) (.cells #[.func (.func 110) #[] #[]] 25)
 have h3:=heap_alloc_new (((w.alloc (.cells #[.int .i64 k] 3)).alloc (.cells #[.bool head] 4)).alloc (.cells #[.func (.func 110) #[] #[]] 25)) (.cells #[.func (.func 111) #[] #[.pointer (some ⟨w.heap.size+1,0,none⟩)]] 25)
 simp only[World.size_alloc] at h1 h2 h3
 exact⟨_,_,_,_,rfl,qb (qb (qb h0)),qb (qb h1),qb h2,h3⟩
theorem qlx (w:World) (k:Int) (head:Bool):Below w.heap.size w (eW w k head):=qt (qt (qt (qt (Below.refl w.heap.size w))))
theorem aE (k:Int) (head:Bool) (w:World):Calls Tryz.prog 96 #[.int .i64 k,.bool head] w fun e w'=>(∃ lb,e = .returned (.func (.func 112) #[] lb)∧EV w' lb k head)∧Below w.heap.size w w':=by
 have HE:=zxi (qvJ w k head)
 have HB:=zxi (qlx w k head)
 go_enter Tryz.func96,Tryz.ntmps96
 go_wp2_with fail
 go_ret
 exact⟨⟨_,rfl,HE.out⟩,HB.out⟩
def EOk (y:Tree):Prop:=∀ (k:Int) (c:Nat) (head:Bool),k=(c:Int)→1≤c→c≤7→∀ (W:World) (lb:Array Value),EV W lb k head→LexG W→∀ (r:RN),NodeM W W.heap.size y r→qY y≤3000 →
 Calls Tryz.prog 112 (#[r.val]++lb) W fun e w'=>e = .returned (.bool (RR (eC c head) y))∧Below W.heap.size W w'
theorem EV.sort {w W:World} {lb:Array Value} {k:Int} {head:Bool} (h:EV w lb k head) (hb:Below w.heap.size w W) (c:Nat) (hk:k=(c:Int)) (h1:1≤c) (h7:c≤7) (hG:LexG W) {y:Tree} (hy:EOk y) (hc:qY y≤3000) :
  Q5 (.func (.func 112) #[] lb) (RR (eC c head)) W y :=
 ⟨112,lb,rfl,fun args w=>by rfl,fun W' rx hW hm=>hy k c head hk h1 h7 W' lb ((h.later hb).later hW) (hG.below hW) rx hm hc⟩
theorem qcT (y:Tree) (hy:EOk y):FnP 110 (RR 101) y:=by
 intro r w hG hm hc
 have hG0:=hG.alloc (qd r)
 have hm0:=hm.boxed zxn (qd r)
 have HX:=zxi (heap_alloc_new w (qd r))
 have HB:=zxi ((Below.refl w.heap.size w).alloc zxn (qd r))
 obtain⟨W0,hW0⟩:∃ W0,w.alloc (qd r)=W0:=⟨_,rfl⟩
 rw[hW0] at hG0 hm0 HX HB
 have HY:=zxi (fun W lb (hb:Below W0.heap.size W0 W) (hE:EV W lb 1 false)=>hy 1 1 false rfl zxo zxo W lb hE (hG0.below hb) r (hm0.after zxn hb) hc)
 have e:RR (eC 1 false) y=RR 101 y:=rfl
 rw[e] at HY
 generalize RR 101 y=B at *
 have eg:∀ args w,(callFunc 112 args).run Tryz.prog w = .ok (.enter 112 args) w:=fun args w=>by rfl
 clear hG hm hc e hG0 hm0
 unfold RN.val at HY ⊢
 go_enter Tryz.func110,Tryz.ntmps110
 go_wp2_with fail
 rw[show w.alloc (.cells #[.int .i64 r.kind,.int .i64 r.fr,.int .i64 r.en,.int .i64 r.at_,.string r.name,.slice r.A r.n r.cap] 24)=W0 from hW0]
 go_region_held3 (fun w'=>Below W0.heap.size W0 w'∧w'.cell? ⟨w.heap.size,0,none⟩=some (.int .i64 r.kind)∧w'.cell? ⟨w.heap.size,1,none⟩=some (.int .i64 r.fr)∧w'.cell? ⟨w.heap.size,2,none⟩=some (.int .i64 r.en)∧w'.cell? ⟨w.heap.size,3,none⟩=some (.int .i64 r.at_)∧w'.cell? ⟨w.heap.size,4,none⟩=some (.string r.name)∧w'.cell? ⟨w.heap.size,5,none⟩=some (.slice r.A r.n r.cap))
  (exact qh HX.out)
  (first | (go_at_call 96;refine(aE _ _ _).mono ?_;rintro e wA ⟨⟨lb,rfl,hE⟩,hbA⟩) | (go_at_fn 112;refine(HY.out _ _ (by repeat (first | exact Below.refl _ _ | assumption | apply qt | apply JU | (refine qa ?_ zxa))) hE).mono ?_;rintro e wB ⟨rfl,hbB⟩))
 all_goals (rename_i hH;have HE:=qa HB.out hH.1;clear hH)
 all_goals go_wp2_with fail
 all_goals go_ret
 all_goals exact⟨rfl,HE⟩
theorem jO {w0 W':World} {b b1:Nat} {r:RN} {v1:Value} {T1:TypeId} (hx:w0.heap[b]?=some (qd r)) (h1:w0.heap[b1]?=some (.cells #[v1] T1 (0,0))) (hb:Below w0.heap.size w0 W':=by repeat (first | exact zR _ | assumption | apply zA | apply zD | refine zT ?_ zxa)) :
  Below w0.heap.size w0 W'∧W'.cell? ⟨b,0,none⟩=some (.int .i64 r.kind)∧W'.cell? ⟨b,1,none⟩=some (.int .i64 r.fr)∧W'.cell? ⟨b,2,none⟩=some (.int .i64 r.en)∧W'.cell? ⟨b,3,none⟩=some (.int .i64 r.at_)∧W'.cell? ⟨b,4,none⟩=some (.string r.name)∧W'.cell? ⟨b,5,none⟩=some (.slice r.A r.n r.cap)∧W'.cell? ⟨b1,0,none⟩=some v1:=by
 obtain⟨h,e0,e1,e2,e3,e4,e5⟩:=qh hx hb
 exact⟨h,e0,e1,e2,e3,e4,e5,(jf (qg h1 hb)).1⟩
theorem qhE {w0 W':World} {b b1 b2:Nat} {r:RN} {v1 v2:Value} {T1 T2:TypeId} (hx:w0.heap[b]?=some (qd r)) (h1:w0.heap[b1]?=some (.cells #[v1] T1 (0,0))) (h2:w0.heap[b2]?=some (.cells #[v2] T2 (0,0))) (hb:Below w0.heap.size w0 W':=by repeat (first | exact zR _ | assumption | apply zA | apply zD | refine zT ?_ zxa)) :
  Below w0.heap.size w0 W'∧W'.cell? ⟨b,0,none⟩=some (.int .i64 r.kind)∧W'.cell? ⟨b,1,none⟩=some (.int .i64 r.fr)∧W'.cell? ⟨b,2,none⟩=some (.int .i64 r.en)∧W'.cell? ⟨b,3,none⟩=some (.int .i64 r.at_)∧W'.cell? ⟨b,4,none⟩=some (.string r.name)∧W'.cell? ⟨b,5,none⟩=some (.slice r.A r.n r.cap)∧W'.cell? ⟨b1,0,none⟩=some v1∧W'.cell? ⟨b2,0,none⟩=some v2:=by
 obtain⟨h,e0,e1,e2,e3,e4,e5,e6⟩:=jO hx h1 hb
 exact⟨h,e0,e1,e2,e3,e4,e5,e6,(jf (qg h2 hb)).1⟩
theorem qd1 {w0:World} {b1:Nat} {head:Bool} (h1:w0.heap[b1]?=some (.cells #[.bool head] 4 (0,0))) (hGG:LexG w0) {y:Tree} (hy:EOk y) (hc:qY y≤3000):Q5 (.func (.func 111) #[] #[.pointer (some ⟨b1,0,none⟩)]) (RR (eC 7 head)) w0 y:=by
 refine⟨111,_,rfl,fun args w=>by rfl,fun w r hW hm=>?_⟩
 have hG:=hGG.below hW
 have H1:=zxi (qb (o':=qd r) (qg h1 hW))
 obtain⟨f0,fz,fl⟩:=jf H1.out
 have hG0:=hG.alloc (qd r)
 have hm0:=hm.boxed zxn (qd r)
 have HX:=zxi (heap_alloc_new w (qd r))
 have HB:=zxi ((Below.refl w.heap.size w).alloc zxn (qd r))
 obtain⟨W0,hW0⟩:∃ W0,w.alloc (qd r)=W0:=⟨_,rfl⟩
 rw[hW0] at hG0 hm0 HX HB H1 f0 fz fl
 have HY:=zxi (fun W lb (hb:Below W0.heap.size W0 W) (hE:EV W lb 7 head)=>hy 7 7 head rfl zxo zxo W lb hE (hG0.below hb) r (hm0.after zxn hb) hc)
 generalize RR (eC 7 head) y=B at *
 have eg:∀ args w,(callFunc 112 args).run Tryz.prog w = .ok (.enter 112 args) w:=fun args w=>by rfl
 clear hG hm hc hG0 hm0 h1 hGG hW
 show Calls Tryz.prog 111 #[r.val,.pointer (some ⟨b1,0,none⟩)] w _
 unfold RN.val at HY ⊢
 go_enter Tryz.func111,Tryz.ntmps111
 go_wp2_with fail
 rw[show w.alloc (.cells #[.int .i64 r.kind,.int .i64 r.fr,.int .i64 r.en,.int .i64 r.at_,.string r.name,.slice r.A r.n r.cap] 24)=W0 from hW0]
 go_region_held3 (fun w'=>Below W0.heap.size W0 w'∧w'.cell? ⟨w.heap.size,0,none⟩=some (.int .i64 r.kind)∧w'.cell? ⟨w.heap.size,1,none⟩=some (.int .i64 r.fr)∧w'.cell? ⟨w.heap.size,2,none⟩=some (.int .i64 r.en)∧w'.cell? ⟨w.heap.size,3,none⟩=some (.int .i64 r.at_)∧w'.cell? ⟨w.heap.size,4,none⟩=some (.string r.name)∧w'.cell? ⟨w.heap.size,5,none⟩=some (.slice r.A r.n r.cap)∧w'.cell? ⟨b1,0,none⟩=some (.bool head))
  (exact jO HX.out H1.out)
  (first | (go_at_call 96;refine(aE _ _ _).mono ?_;rintro e wA ⟨⟨lb,rfl,hE⟩,hbA⟩) | (go_at_fn 112;refine(HY.out _ _ (by repeat (first | exact Below.refl _ _ | assumption | apply qt | apply JU | (refine qa ?_ zxa))) hE).mono ?_;rintro e wB ⟨rfl,hbB⟩))
 all_goals (rename_i hH;have HE:=qa HB.out hH.1;clear hH)
 all_goals go_wp2_with fail
 all_goals go_ret
 all_goals exact⟨rfl,HE⟩
theorem qqP (k f e a:Int) (n:BL) (l:List Tree):isR qc qw (.mk k f e a n l) 16=(isR qc qw (.mk k f e a n l) 17||(qc n&&decide (k=26)&&qx [RR 16] l)):=by rw[qsU]
theorem qqN (x:Tree) (hk:∀ y∈x.kids,FnP 118 (RR 16) y):FnP 118 (RR 16) x:=by
 intro r w hG hm hc
 have hG0:=hG.alloc (qd r)
 have hm0:=hm.boxed zxn (qd r)
 have HX:=zxi (heap_alloc_new w (qd r))
 have HB:=zxi ((Below.refl w.heap.size w).alloc zxn (qd r))
 obtain⟨W0,hW0⟩:∃ W0,w.alloc (qd r)=W0:=⟨_,rfl⟩
 rw[hW0] at hG0 hm0 HX HB
 have H1:=zxi (qer x r W0 hG0 hm0 hc)
 have H2:=zxi (fun W (hb:Below W0.heap.size W0 W) A n c Ps (hS:SortsAt W A n Ps x.kids)=>jy x r W (hm0.after zxn hb) 26 A n c Ps hS hc)
 have HS:=zxi (fun W (hb:Below W0.heap.size W0 W) y (hy:y∈x.kids)=>(hk y hy).sort (w:=W) (fun args w=>by rfl) (hG0.below hb) (qk hc hy))
 have hv:RR 16 x=(RR 17 x||(qc x.name&&decide (x.kind=26)&&qx [RR 16] x.kids)):=by
  obtain⟨k,f,e,a,n,l⟩:=x
  exact qqP k f e a n l
 generalize RR 16 x=B at *
 generalize RR 17 x=B7 at *
 generalize hbk:(qc x.name&&decide (x.kind=26)&&qx [RR 16] x.kids)=Bk at *
 subst hv
 clear hG hm hc hG0 hm0 hk
 unfold RN.val at H1 H2 ⊢
 cases B7 with
 | true =>
  clear H2
  go_enter Tryz.func118,Tryz.ntmps118
  go_wp2_with (first | (go_at_call 94;go_must (rw[show w.alloc (.cells #[.int .i64 r.kind,.int .i64 r.fr,.int .i64 r.en,.int .i64 r.at_,.string r.name,.slice r.A r.n r.cap] 24)=W0 from hW0];refine H1.out.mono ?_);rintro e wA ⟨rfl,hbA⟩;obtain⟨e0,e1,e2,e3,e4,e5,ez,el⟩:=qD (qg HX.out hbA)) | (go_at_call 58;go_must (refine((zb H2) _ _ _ [RR 16] (SortsAt.lit (vs:=[_]) (qG zxs) ⟨(zb HS),trivial⟩)).mono ?_);rintro e wB ⟨rfl,hbB⟩))
  go_ret
  exact⟨qi zxs,qa HB.out (by repeat (first | exact Below.refl _ _ | assumption | apply qt | apply JU | (refine qa ?_ zxa)))⟩
 | false =>
  go_enter Tryz.func118,Tryz.ntmps118
  go_wp2_with (first | (go_at_call 94;go_must (rw[show w.alloc (.cells #[.int .i64 r.kind,.int .i64 r.fr,.int .i64 r.en,.int .i64 r.at_,.string r.name,.slice r.A r.n r.cap] 24)=W0 from hW0];refine H1.out.mono ?_);rintro e wA ⟨rfl,hbA⟩;obtain⟨e0,e1,e2,e3,e4,e5,ez,el⟩:=qD (qg HX.out hbA)) | (go_at_call 58;go_must (refine((zb H2) _ _ _ [RR 16] (SortsAt.lit (vs:=[_]) (qG zxs) ⟨(zb HS),trivial⟩)).mono ?_);rintro e wB ⟨rfl,hbB⟩))
  go_ret
  exact⟨qi (by simp[hbk]),qa HB.out (by repeat (first | exact Below.refl _ _ | assumption | apply qt | apply JU | (refine qa ?_ zxa)))⟩
def HV (w:World) (lb:Array Value) (head:Bool):Prop:=∃ b,lb=#[.pointer (some ⟨b,0,none⟩)]∧w.heap[b]?=some (.cells #[.bool head] 4 (0,0))
theorem HV.later {w w':World} {lb:Array Value} {head:Bool} (h:HV w lb head) (hb:Below w.heap.size w w'):HV w' lb head:=by
 obtain⟨b,e,h⟩:=h
 exact⟨b,e,qg h hb⟩
def HOk (f:Nat) (d:Bool→Nat) (y:Tree):Prop:=∀ (head:Bool) (W:World) (lb:Array Value),HV W lb head→LexG W→∀ (r:RN),NodeM W W.heap.size y r→qY y≤3000 →
 Calls Tryz.prog f (#[r.val]++lb) W fun e w'=>e = .returned (.bool (RR (d head) y))∧Below W.heap.size W w'
theorem HV.sort {f:Nat} {d:Bool→Nat} (eg:∀ args w,(callFunc f args).run Tryz.prog w = .ok (.enter f args) w) {w W:World} {lb:Array Value} {head:Bool} (h:HV w lb head) (hb:Below w.heap.size w W) (hG:LexG W) {y:Tree} (hy:HOk f d y) (hc:qY y≤3000) :
  Q5 (.func (.func f) #[] lb) (RR (d head)) W y :=
 ⟨f,lb,rfl,eg,fun W' rx hW hm=>hy head W' lb ((h.later hb).later hW) (hG.below hW) rx hm hc⟩
def qj2 (head:Bool):Nat:=if head then 1014 else 14
def qas (head:Bool):Nat:=if head then 1015 else 15
def QD (head:Bool):Nat:=if head then 1018 else 18
theorem qet (head:Bool) (w:World):Calls Tryz.prog 99 #[.bool head] w fun e w'=>(∃ lb,e = .returned (.func (.func 116) #[] lb)∧HV w' lb head)∧Below w.heap.size w w':=by
 have HX:=zxi (heap_alloc_new w (.cells #[.bool head] 4))
 go_enter Tryz.func99,Tryz.ntmps99
 exact qkw
theorem qns (head:Bool) (w:World):Calls Tryz.prog 100 #[.bool head] w fun e w'=>(∃ lb,e = .returned (.func (.func 117) #[] lb)∧HV w' lb head)∧Below w.heap.size w w':=by
 have HX:=zxi (heap_alloc_new w (.cells #[.bool head] 4))
 go_enter Tryz.func100,Tryz.ntmps100
 exact qkw
theorem qm6 (head:Bool) (w:World):Calls Tryz.prog 119 #[.bool head] w fun e w'=>(∃ lb,e = .returned (.func (.func 138) #[] lb)∧HV w' lb head)∧Below w.heap.size w w':=by
 have HX:=zxi (heap_alloc_new w (.cells #[.bool head] 4))
 go_enter Tryz.func119,Tryz.ntmps119
 exact qkw
theorem qvW (head:Bool) (k f e a:Int) (n:BL) (l:List Tree):isR qc qw (.mk k f e a n l) (qj2 head)=(qc n&&decide (k=12)&&qx [RR (eC 1 head)] l):=by
 cases head
 · exact qju qc qw k f e a n l
 · exact qlC qc qw k f e a n l
theorem qtx (head:Bool) (k f e a:Int) (n:BL) (l:List Tree):isR qc qw (.mk k f e a n l) (qas head)=((n.isEmpty&&decide (k=13)&&qx [RR 16,RR (eC 1 head)] l)||(n.isEmpty&&decide (k=20)&&qx [RR (QD head)] l)):=by
 cases head
 · exact qjq qc qw k f e a n l
 · exact qky qc qw k f e a n l
theorem qks (n:BL):jp [QC,Qz] n=(decide (n=QC)||decide (n=Qz)):=by
 unfold jp
 rw[Bool.eq_iff_iff,List.contains_iff_mem]
 simp
theorem qkF (head:Bool) (k f e a:Int) (n:BL) (l:List Tree):isR qc qw (.mk k f e a n l) (QD head)=((decide (k=27)||(decide (k=32)&&jp [QC,Qz] n))&&isR qc qw (.mk k f e a n l) (eC 7 head)):=by
 rw[qks]
 cases head
 · exact qsi qc qw k f e a n l
 · exact qkC qc qw k f e a n l
theorem qkW (x:Tree) (hk:∀ y∈x.kids,EOk y):HOk 116 qj2 x:=by
 rintro head w lb ⟨b1,rfl,h1⟩ hG r hm hc
 have H1:=zxi (qb (o':=qd r) h1)
 obtain⟨f0,fz,fl⟩:=jf H1.out
 have hG0:=hG.alloc (qd r)
 have hm0:=hm.boxed zxn (qd r)
 have HX:=zxi (heap_alloc_new w (qd r))
 have HB:=zxi ((Below.refl w.heap.size w).alloc zxn (qd r))
 obtain⟨W0,hW0⟩:∃ W0,w.alloc (qd r)=W0:=⟨_,rfl⟩
 rw[hW0] at hG0 hm0 HX HB H1 f0 fz fl
 have HP:=zxi (fun W (hb:Below W0.heap.size W0 W) A n c (hS:SortsAt W A n [RR (eC 1 head)] x.kids)=>jy x r W (hm0.after zxn hb) 12 A n c [RR (eC 1 head)] hS hc)
 have HS:=zxi (fun w W lb (hE:EV w lb 1 head) (hb:Below w.heap.size w W) (hb0:Below W0.heap.size W0 W) y (hy:y∈x.kids)=>hE.sort hb 1 rfl zxo zxo (hG0.below hb0) (hk y hy) (qk hc hy))
 have hv:(qc x.name&&decide (x.kind=12)&&qx [RR (eC 1 head)] x.kids)=RR (qj2 head) x:=by
  obtain⟨k,f,e,a,n,l⟩:=x
  exact(qvW head k f e a n l).symm
 rw[hv] at HP
 generalize RR (qj2 head) x=B at *
 clear hG hm hc hG0 hm0 h1 hk hv
 show Calls Tryz.prog 116 #[r.val,.pointer (some ⟨b1,0,none⟩)] w _
 unfold RN.val at HP ⊢
 go_enter Tryz.func116,Tryz.ntmps116
 go_wp2_with fail
 rw[show w.alloc (.cells #[.int .i64 r.kind,.int .i64 r.fr,.int .i64 r.en,.int .i64 r.at_,.string r.name,.slice r.A r.n r.cap] 24)=W0 from hW0]
 first
 | (go_region_held3 (fun w'=>Below W0.heap.size W0 w'∧w'.cell? ⟨w.heap.size,0,none⟩=some (.int .i64 r.kind)∧w'.cell? ⟨w.heap.size,1,none⟩=some (.int .i64 r.fr)∧w'.cell? ⟨w.heap.size,2,none⟩=some (.int .i64 r.en)∧w'.cell? ⟨w.heap.size,3,none⟩=some (.int .i64 r.at_)∧w'.cell? ⟨w.heap.size,4,none⟩=some (.string r.name)∧w'.cell? ⟨w.heap.size,5,none⟩=some (.slice r.A r.n r.cap)∧w'.cell? ⟨b1,0,none⟩=some (.bool head))
  (exact jO HX.out H1.out)
  (first | (go_at_call 96;refine(aE _ _ _).mono ?_;rintro e wA ⟨⟨lb,rfl,hE⟩,hbA⟩) | (go_at_call 58;go_loud (refine((zb HP) _ _ _ (SortsAt.lit (vs:=[_]) (qG zxs) ⟨HS.out _ _ _ hE zxq zxq,trivial⟩)).mono ?_);rintro e wB ⟨rfl,hbB⟩)))
 | fail
 all_goals (rename_i hH;have HE:=qa HB.out hH.1;clear hH)
 all_goals go_wp2_with fail
 all_goals go_ret
 all_goals exact⟨rfl,HE⟩
theorem qrZ (x:Tree) (hk:∀ y∈x.kids,EOk y∧FnP 118 (RR 16) y∧HOk 138 QD y):HOk 117 qas x:=by
 rintro head w lb ⟨b1,rfl,h1⟩ hG r hm hc
 have H1:=zxi (qb (o':=qd r) h1)
 obtain⟨f0,fz,fl⟩:=jf H1.out
 have hG0:=hG.alloc (qd r)
 have hm0:=hm.boxed zxn (qd r)
 have HX:=zxi (heap_alloc_new w (qd r))
 have HB:=zxi ((Below.refl w.heap.size w).alloc zxn (qd r))
 obtain⟨W0,hW0⟩:∃ W0,w.alloc (qd r)=W0:=⟨_,rfl⟩
 rw[hW0] at hG0 hm0 HX HB H1 f0 fz fl
 have HP:=zxi (fun W (hb:Below W0.heap.size W0 W) A n c (hS:SortsAt W A n [RR 16,RR (eC 1 head)] x.kids)=>Qj x r W (hm0.after zxn hb) 13 A n c [RR 16,RR (eC 1 head)] hS hc)
 have HQ:=zxi (fun W (hb:Below W0.heap.size W0 W) A n c (hS:SortsAt W A n [RR (QD head)] x.kids)=>Qj x r W (hm0.after zxn hb) 20 A n c [RR (QD head)] hS hc)
 have HS:=zxi (fun w W lb (hE:EV w lb 1 head) (hb:Below w.heap.size w W) (hb0:Below W0.heap.size W0 W) y (hy:y∈x.kids)=>hE.sort hb 1 rfl zxo zxo (hG0.below hb0) (hk y hy).1 (qk hc hy))
 have HT:=zxi (fun w W lb (hE:HV w lb head) (hb:Below w.heap.size w W) (hb0:Below W0.heap.size W0 W) y (hy:y∈x.kids)=>hE.sort (f:=138) (fun args w=>by rfl) hb (hG0.below hb0) (hk y hy).2.2 (qk hc hy))
 have HU:=zxi (fun W (hb:Below W0.heap.size W0 W) y (hy:y∈x.kids)=>((hk y hy).2.1).sort (w:=W) (fun args w=>by rfl) (hG0.below hb) (qk hc hy))
 have hv:RR (qas head) x=((x.name.isEmpty&&decide (x.kind=13)&&qx [RR 16,RR (eC 1 head)] x.kids)||(x.name.isEmpty&&decide (x.kind=20)&&qx [RR (QD head)] x.kids)):=by
  obtain⟨k,f,e,a,n,l⟩:=x
  exact qtx head k f e a n l
 generalize RR (qas head) x=B at *
 generalize hbs:(x.name.isEmpty&&decide (x.kind=13)&&qx [RR 16,RR (eC 1 head)] x.kids)=Bs at *
 generalize hbc:(x.name.isEmpty&&decide (x.kind=20)&&qx [RR (QD head)] x.kids)=Bc at *
 subst hv
 clear hG hm hc hG0 hm0 h1 hk hbs hbc
 show Calls Tryz.prog 117 #[r.val,.pointer (some ⟨b1,0,none⟩)] w _
 unfold RN.val at HP HQ ⊢
 cases Bs with
 | true =>
  go_enter Tryz.func117,Tryz.ntmps117
  go_wp2_with fail
  rw[show w.alloc (.cells #[.int .i64 r.kind,.int .i64 r.fr,.int .i64 r.en,.int .i64 r.at_,.string r.name,.slice r.A r.n r.cap] 24)=W0 from hW0]
  have HKP:=zxi (fun W' (hBW:Below W0.heap.size W0 W')=>(show zE W0 w.heap.size r (fun w'=>w'.cell? ⟨b1,0,none⟩=some (.bool head)) W' from by exact jO HX.out H1.out hBW))
  refine zHD HKP fun hHeld=>?_
  refine zTk 0 (h:=?_)
  refine zTk 1 (h:=?_)
  refine zRd 2 (h:=fun KK hKK=>?_)
  go_simp
  (go_at_call 96;refine(aE _ _ _).mono ?_;rintro e wA ⟨⟨lb,rfl,hE⟩,hbA⟩)
  (try go_wp2_with fail)
  refine zKK hKK HKP fun hHeld2=>?_;clear hKK KK hHeld;rename _=>hHeld
  refine zRd 3 (h:=fun KK hKK=>?_)
  go_simp
  refine zKK hKK HKP fun hHeld2=>?_;clear hKK KK hHeld;rename _=>hHeld
  refine zRd 4 (h:=fun KK hKK=>?_)
  go_simp
  (refine((zb HP) _ _ _ (SortsAt.lit (vs:=[_,_]) (qG zxs) ⟨(zb HU),HS.out _ _ _ hE zxq zxq,trivial⟩)).mono ?_;rintro e wB ⟨rfl,hbB⟩)
  (try go_wp2_with fail)
  refine zKK hKK HKP fun hHeld2=>?_;clear hKK KK hHeld;rename _=>hHeld
  refine zTk 5 (h:=?_)
  refine zTn 6 (h:=?_)
  refine zTn 7 (h:=?_)
  refine zTn 8 (h:=?_)
  refine zTn 9 (h:=?_)
  refine zTn 10 (h:=?_)
  exact qqy
 | false =>
  go_enter Tryz.func117,Tryz.ntmps117
  go_wp2_with fail
  rw[show w.alloc (.cells #[.int .i64 r.kind,.int .i64 r.fr,.int .i64 r.en,.int .i64 r.at_,.string r.name,.slice r.A r.n r.cap] 24)=W0 from hW0]
  have HKP:=zxi (fun W' (hBW:Below W0.heap.size W0 W')=>(show zE W0 w.heap.size r (fun w'=>w'.cell? ⟨b1,0,none⟩=some (.bool head)) W' from by exact jO HX.out H1.out hBW))
  refine zHD HKP fun hHeld=>?_
  refine zTk 0 (h:=?_)
  refine zTk 1 (h:=?_)
  refine zRd 2 (h:=fun KK hKK=>?_)
  go_simp
  (go_at_call 96;refine(aE _ _ _).mono ?_;rintro e wA ⟨⟨lb,rfl,hE⟩,hbA⟩)
  (try go_wp2_with fail)
  refine zKK hKK HKP fun hHeld2=>?_;clear hKK KK hHeld;rename _=>hHeld
  refine zRd 3 (h:=fun KK hKK=>?_)
  go_simp
  refine zKK hKK HKP fun hHeld2=>?_;clear hKK KK hHeld;rename _=>hHeld
  refine zRd 4 (h:=fun KK hKK=>?_)
  go_simp
  (refine((zb HP) _ _ _ (SortsAt.lit (vs:=[_,_]) (qG zxs) ⟨(zb HU),HS.out _ _ _ hE zxq zxq,trivial⟩)).mono ?_;rintro e wB ⟨rfl,hbB⟩)
  (try go_wp2_with fail)
  refine zKK hKK HKP fun hHeld2=>?_;clear hKK KK hHeld;rename _=>hHeld
  refine zTk 5 (h:=?_)
  refine zTk 6 (h:=?_)
  refine zTk 7 (h:=?_)
  refine zRd 8 (h:=fun KK hKK=>?_)
  go_simp
  (refine(qm6 _ _).mono ?_;rintro e wC ⟨⟨lc,rfl,hC⟩,hbC⟩)
  (try go_wp2_with fail)
  refine zKK hKK HKP fun hHeld2=>?_;clear hKK KK hHeld;rename _=>hHeld
  refine zRd 9 (h:=fun KK hKK=>?_)
  go_simp
  refine zKK hKK HKP fun hHeld2=>?_;clear hKK KK hHeld;rename _=>hHeld
  refine zRd 10 (h:=fun KK hKK=>?_)
  go_simp
  (refine((zb HQ) _ _ _ (SortsAt.lit (vs:=[_]) (qG zxs) ⟨HT.out _ _ _ hC zxq zxq,trivial⟩)).mono ?_;rintro e wD ⟨rfl,hbD⟩)
  (try go_wp2_with fail)
  refine zKK hKK HKP fun hHeld2=>?_;clear hKK KK hHeld;rename _=>hHeld
  exact qqy
theorem qlM (x:Tree) (hx:EOk x):HOk 138 QD x:=by
 rintro head w lb ⟨b1,rfl,h1⟩ hG r hm hc
 have H1:=zxi (qb (o':=qd r) h1)
 obtain⟨f0,fz,fl⟩:=jf H1.out
 have hG0:=hG.alloc (qd r)
 have hm0:=hm.boxed zxn (qd r)
 have HX:=zxi (heap_alloc_new w (qd r))
 have HB:=zxi ((Below.refl w.heap.size w).alloc zxn (qd r))
 obtain⟨W0,hW0⟩:∃ W0,w.alloc (qd r)=W0:=⟨_,rfl⟩
 rw[hW0] at hG0 hm0 HX HB H1 f0 fz fl
 have HY:=zxi (fun W lb (hb:Below W0.heap.size W0 W) (hE:EV W lb 7 head)=>hx 7 7 head rfl zxo zxo W lb hE (hG0.below hb) r (hm0.after zxn hb) hc)
 have HW:=zxi (fun W (hb:Below W0.heap.size W0 W)=>JJ r.name ⟨#[112,114,105,110,116,32,112,97,110,105,99]⟩ [QC,Qz] 2 rfl (by decide +kernel) zxd (by decide +kernel) zxd W (hG0.below hb))
 have hname:r.name.data.toList=x.name:=by rw[hm.name,qj]
 have hkind:x.kind=r.kind:=hm.kind.symm
 rw[hname] at HW
 have hv:RR (QD head) x=((decide (r.kind=27)||(decide (r.kind=32)&&jp [QC,Qz] x.name))&&RR (eC 7 head) x):=by
  rw[← hkind]
  obtain⟨k,f,e,a,n,l⟩:=x
  exact qkF head k f e a n l
 generalize RR (QD head) x=B at *
 generalize RR (eC 7 head) x=B7 at *
 generalize jp [QC,Qz] x.name=Bw at *
 subst hv
 have eg:∀ args w,(callFunc 112 args).run Tryz.prog w = .ok (.enter 112 args) w:=fun args w=>by rfl
 clear hG hm hc hG0 hm0 h1 hx hname hkind
 show Calls Tryz.prog 138 #[r.val,.pointer (some ⟨b1,0,none⟩)] w _
 unfold RN.val at HY ⊢
 by_cases k27:r.kind=27
 · have b27:(r.kind == 27)=true:=by simp[k27]
   have d27:decide (r.kind=27)=true:=by simp[k27]
   clear k27
   go_enter Tryz.func138,Tryz.ntmps138
   go_wp2_with fail
   rw[show w.alloc (.cells #[.int .i64 r.kind,.int .i64 r.fr,.int .i64 r.en,.int .i64 r.at_,.string r.name,.slice r.A r.n r.cap] 24)=W0 from hW0]
   have HKP:=zxi (fun W' (hBW:Below W0.heap.size W0 W')=>(show zE W0 w.heap.size r (fun w'=>w'.cell? ⟨b1,0,none⟩=some (.bool head)) W' from by exact jO HX.out H1.out hBW))
   refine zHD HKP fun hHeld=>?_
   refine zTk 0 (h:=?_)
   refine zTk 1 (h:=?_)
   refine zTk 2 (h:=?_)
   refine zTk 3 (h:=?_)
   refine zTn 4 (h:=?_)
   refine zTn 5 (h:=?_)
   refine zTn 6 (h:=?_)
   refine zTn 7 (h:=?_)
   refine zTn 8 (h:=?_)
   refine zTn 9 (h:=?_)
   refine zTn 10 (h:=?_)
   refine zTn 11 (h:=?_)
   exact qru
 · have b27:(r.kind == 27)=false:=by simp[k27]
   have d27:decide (r.kind=27)=false:=by simp[k27]
   clear k27
   by_cases k32:r.kind=32
   · have b32:(r.kind == 32)=true:=by simp[k32]
     have d32:decide (r.kind=32)=true:=by simp[k32]
     clear k32
     cases Bw with
     | true =>
      go_enter Tryz.func138,Tryz.ntmps138
      go_wp2_with fail
      rw[show w.alloc (.cells #[.int .i64 r.kind,.int .i64 r.fr,.int .i64 r.en,.int .i64 r.at_,.string r.name,.slice r.A r.n r.cap] 24)=W0 from hW0]
      have HKP:=zxi (fun W' (hBW:Below W0.heap.size W0 W')=>(show zE W0 w.heap.size r (fun w'=>w'.cell? ⟨b1,0,none⟩=some (.bool head)) W' from by exact jO HX.out H1.out hBW))
      refine zHD HKP fun hHeld=>?_
      refine zTk 0 (h:=?_)
      refine zTk 1 (h:=?_)
      refine zTk 2 (h:=?_)
      refine zTk 3 (h:=?_)
      refine zTk 4 (h:=?_)
      refine zTk 5 (h:=?_)
      refine zTk 6 (h:=?_)
      refine zTk 7 (h:=?_)
      refine zTk 8 (h:=?_)
      refine zTk 9 (h:=?_)
      refine zRd 10 (h:=fun KK hKK=>?_)
      go_simp
      (refine(zb HW).mono ?_;rintro e wC ⟨rfl,hbC⟩)
      (try go_wp2_with fail)
      refine zKK hKK HKP fun hHeld2=>?_;clear hKK KK hHeld;rename _=>hHeld
      refine zTk 11 (h:=?_)
      exact qru
     | false =>
      go_enter Tryz.func138,Tryz.ntmps138
      go_wp2_with fail
      rw[show w.alloc (.cells #[.int .i64 r.kind,.int .i64 r.fr,.int .i64 r.en,.int .i64 r.at_,.string r.name,.slice r.A r.n r.cap] 24)=W0 from hW0]
      have HKP:=zxi (fun W' (hBW:Below W0.heap.size W0 W')=>(show zE W0 w.heap.size r (fun w'=>w'.cell? ⟨b1,0,none⟩=some (.bool head)) W' from by exact jO HX.out H1.out hBW))
      refine zHD HKP fun hHeld=>?_
      refine zTk 0 (h:=?_)
      refine zTk 1 (h:=?_)
      refine zTk 2 (h:=?_)
      refine zTk 3 (h:=?_)
      refine zTk 4 (h:=?_)
      refine zTk 5 (h:=?_)
      refine zTk 6 (h:=?_)
      refine zTk 7 (h:=?_)
      refine zTk 8 (h:=?_)
      refine zTk 9 (h:=?_)
      refine zRd 10 (h:=fun KK hKK=>?_)
      go_simp
      (refine(zb HW).mono ?_;rintro e wC ⟨rfl,hbC⟩)
      (try go_wp2_with fail)
      refine zKK hKK HKP fun hHeld2=>?_;clear hKK KK hHeld;rename _=>hHeld
      exact quk
   · have b32:(r.kind == 32)=false:=by simp[k32]
     have d32:decide (r.kind=32)=false:=by simp[k32]
     clear k32
     go_enter Tryz.func138,Tryz.ntmps138
     go_wp2_with fail
     rw[show w.alloc (.cells #[.int .i64 r.kind,.int .i64 r.fr,.int .i64 r.en,.int .i64 r.at_,.string r.name,.slice r.A r.n r.cap] 24)=W0 from hW0]
     have HKP:=zxi (fun W' (hBW:Below W0.heap.size W0 W')=>(show zE W0 w.heap.size r (fun w'=>w'.cell? ⟨b1,0,none⟩=some (.bool head)) W' from by exact jO HX.out H1.out hBW))
     refine zHD HKP fun hHeld=>?_
     refine zTk 0 (h:=?_)
     refine zTk 1 (h:=?_)
     refine zTk 2 (h:=?_)
     refine zTk 3 (h:=?_)
     refine zTk 4 (h:=?_)
     refine zTk 5 (h:=?_)
     refine zTk 6 (h:=?_)
     refine zTk 7 (h:=?_)
     refine zTn 8 (h:=?_)
     refine zTn 9 (h:=?_)
     refine zTn 10 (h:=?_)
     exact quk
theorem qy {w0 W':World} {b b1 b2 b3 b4:Nat} {r:RN} {v1 v2 v3 v4:Value} {T1 T2 T3 T4:TypeId} (hx:w0.heap[b]?=some (qd r)) (h1:w0.heap[b1]?=some (.cells #[v1] T1 (0,0))) (h2:w0.heap[b2]?=some (.cells #[v2] T2 (0,0))) (h3:w0.heap[b3]?=some (.cells #[v3] T3 (0,0))) (h4:w0.heap[b4]?=some (.cells #[v4] T4 (0,0))) (hb:Below w0.heap.size w0 W':=by repeat (first | exact zR _ | assumption | apply zA | apply zD | refine zT ?_ zxa)) :
  Below w0.heap.size w0 W'∧W'.cell? ⟨b,0,none⟩=some (.int .i64 r.kind)∧W'.cell? ⟨b,1,none⟩=some (.int .i64 r.fr)∧W'.cell? ⟨b,2,none⟩=some (.int .i64 r.en)∧W'.cell? ⟨b,3,none⟩=some (.int .i64 r.at_)∧W'.cell? ⟨b,4,none⟩=some (.string r.name)∧W'.cell? ⟨b,5,none⟩=some (.slice r.A r.n r.cap)∧W'.cell? ⟨b1,0,none⟩=some v1∧W'.cell? ⟨b2,0,none⟩=some v2∧W'.cell? ⟨b3,0,none⟩=some v3∧W'.cell? ⟨b4,0,none⟩=some v4:=by
 obtain⟨h,e0,e1,e2,e3,e4,e5,e6,e7⟩:=qhE hx h1 h2 hb
 exact⟨h,e0,e1,e2,e3,e4,e5,e6,e7,(jf (qg h3 hb)).1,(jf (qg h4 hb)).1⟩
theorem qwc (x:Tree) (hkd:x.kind=21):EOk x:=by
 rintro k c head rfl h1c h7c w lb ⟨b0,b1,b2,b3,rfl,g0,g1,g2,g3⟩ hG r hm hc
 have HE0:=zxi (And.intro (qb (o':=qd r) g0) (And.intro (qb (o':=qd r) g1) (And.intro (qb (o':=qd r) g2) (qb (o':=qd r) g3))))
 have hG0:=hG.alloc (qd r)
 have hm0:=hm.boxed zxn (qd r)
 have HX:=zxi (heap_alloc_new w (qd r))
 have HB:=zxi ((Below.refl w.heap.size w).alloc zxn (qd r))
 obtain⟨W0,hW0⟩:∃ W0,w.alloc (qd r)=W0:=⟨_,rfl⟩
 rw[hW0] at hG0 hm0 HX HB HE0
 have hrk:r.kind=21:=by rw[hm.kind];exact hkd
 have hname:r.name.data.toList=x.name:=by rw[hm.name,qj]
 obtain⟨-,e0,e1,e2,e3,e4,e5,f0,f1,f2,f3⟩:=qy HX.out HE0.out.1 HE0.out.2.1 HE0.out.2.2.1 HE0.out.2.2.2 (Below.refl _ _)
 have HS:=zxi (fun W (hb:Below W0.heap.size W0 W) A n cc Ps (hS:SortsAt W A n Ps x.kids)=>QO x r W (hm0.after zxn hb) r.kind A n cc Ps hS hc)
 have HT:=zxi (qjK r.name 3 W0 hG0)
 rw[hname] at HT
 have hv:RR (eC c head) x=(qw x.name 3&&(decide (x.kind=r.kind)&&qx [] x.kids)):=by
  rw[hrk]
  obtain⟨k,f,e,a,n,l⟩:=x
  change k=21 at hkd
  subst hkd
  show isR qc qw _ (eC c head)=(qw n 3&&(decide ((21:Int)=21)&&qx [] l))
  exact qmI
 generalize RR (eC c head) x=B at *
 generalize qw x.name 3=Bt at *
 generalize hbs:(decide (x.kind=r.kind)&&qx [] x.kids)=Bs at *
 subst hv
 have q31:(r.kind == 31)=false:=by simp[hrk]
 have q30:(r.kind == 30)=false:=by simp[hrk]
 have q21:(r.kind == 21)=true:=by simp[hrk]
 have q22:(r.kind == 22)=false:=by simp[hrk]
 have q23:(r.kind == 23)=false:=by simp[hrk]
 exact qvy
theorem qvr (x:Tree) (hkd:x.kind=22):EOk x:=by
 rintro k c head rfl h1c h7c w lb ⟨b0,b1,b2,b3,rfl,g0,g1,g2,g3⟩ hG r hm hc
 have HE0:=zxi (And.intro (qb (o':=qd r) g0) (And.intro (qb (o':=qd r) g1) (And.intro (qb (o':=qd r) g2) (qb (o':=qd r) g3))))
 have hG0:=hG.alloc (qd r)
 have hm0:=hm.boxed zxn (qd r)
 have HX:=zxi (heap_alloc_new w (qd r))
 have HB:=zxi ((Below.refl w.heap.size w).alloc zxn (qd r))
 obtain⟨W0,hW0⟩:∃ W0,w.alloc (qd r)=W0:=⟨_,rfl⟩
 rw[hW0] at hG0 hm0 HX HB HE0
 have hrk:r.kind=22:=by rw[hm.kind];exact hkd
 have hname:r.name.data.toList=x.name:=by rw[hm.name,qj]
 obtain⟨-,e0,e1,e2,e3,e4,e5,f0,f1,f2,f3⟩:=qy HX.out HE0.out.1 HE0.out.2.1 HE0.out.2.2.1 HE0.out.2.2.2 (Below.refl _ _)
 have HS:=zxi (fun W (hb:Below W0.heap.size W0 W) A n cc Ps (hS:SortsAt W A n Ps x.kids)=>QO x r W (hm0.after zxn hb) r.kind A n cc Ps hS hc)
 have HT:=zxi (qjK r.name 4 W0 hG0)
 rw[hname] at HT
 have hv:RR (eC c head) x=(qw x.name 4&&(decide (x.kind=r.kind)&&qx [] x.kids)):=by
  rw[hrk]
  obtain⟨k,f,e,a,n,l⟩:=x
  change k=22 at hkd
  subst hkd
  show isR qc qw _ (eC c head)=(qw n 4&&(decide ((22:Int)=22)&&qx [] l))
  exact qmI
 generalize RR (eC c head) x=B at *
 generalize qw x.name 4=Bt at *
 generalize hbs:(decide (x.kind=r.kind)&&qx [] x.kids)=Bs at *
 subst hv
 have q31:(r.kind == 31)=false:=by simp[hrk]
 have q30:(r.kind == 30)=false:=by simp[hrk]
 have q21:(r.kind == 21)=false:=by simp[hrk]
 have q22:(r.kind == 22)=true:=by simp[hrk]
 have q23:(r.kind == 23)=false:=by simp[hrk]
 exact qvy
theorem qv4 (x:Tree) (hkd:x.kind=23):EOk x:=by
 rintro k c head rfl h1c h7c w lb ⟨b0,b1,b2,b3,rfl,g0,g1,g2,g3⟩ hG r hm hc
 have HE0:=zxi (And.intro (qb (o':=qd r) g0) (And.intro (qb (o':=qd r) g1) (And.intro (qb (o':=qd r) g2) (qb (o':=qd r) g3))))
 have hG0:=hG.alloc (qd r)
 have hm0:=hm.boxed zxn (qd r)
 have HX:=zxi (heap_alloc_new w (qd r))
 have HB:=zxi ((Below.refl w.heap.size w).alloc zxn (qd r))
 obtain⟨W0,hW0⟩:∃ W0,w.alloc (qd r)=W0:=⟨_,rfl⟩
 rw[hW0] at hG0 hm0 HX HB HE0
 have hrk:r.kind=23:=by rw[hm.kind];exact hkd
 have hname:r.name.data.toList=x.name:=by rw[hm.name,qj]
 obtain⟨-,e0,e1,e2,e3,e4,e5,f0,f1,f2,f3⟩:=qy HX.out HE0.out.1 HE0.out.2.1 HE0.out.2.2.1 HE0.out.2.2.2 (Below.refl _ _)
 have HS:=zxi (fun W (hb:Below W0.heap.size W0 W) A n cc Ps (hS:SortsAt W A n Ps x.kids)=>QO x r W (hm0.after zxn hb) r.kind A n cc Ps hS hc)
 have HT:=zxi (qjK r.name 5 W0 hG0)
 rw[hname] at HT
 have hv:RR (eC c head) x=(qw x.name 5&&(decide (x.kind=r.kind)&&qx [] x.kids)):=by
  rw[hrk]
  obtain⟨k,f,e,a,n,l⟩:=x
  change k=23 at hkd
  subst hkd
  show isR qc qw _ (eC c head)=(qw n 5&&(decide ((23:Int)=23)&&qx [] l))
  exact qmI
 generalize RR (eC c head) x=B at *
 generalize qw x.name 5=Bt at *
 generalize hbs:(decide (x.kind=r.kind)&&qx [] x.kids)=Bs at *
 subst hv
 have q31:(r.kind == 31)=false:=by simp[hrk]
 have q30:(r.kind == 30)=false:=by simp[hrk]
 have q21:(r.kind == 21)=false:=by simp[hrk]
 have q22:(r.kind == 22)=false:=by simp[hrk]
 have q23:(r.kind == 23)=true:=by simp[hrk]
 exact qvy
end Go.Proofs.YtacdfjlncfidgaaGreatDoor
