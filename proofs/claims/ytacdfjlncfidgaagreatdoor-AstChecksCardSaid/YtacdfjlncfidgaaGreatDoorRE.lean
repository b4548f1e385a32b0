/- A part of what the claim leans on. -/
import Derived.Test.YtacdfjlncfidgaaGreatDoorQS
import Derived.Test.YtacdfjlncfidgaaGreatDoorQB
import Derived.Deep.RegionHeld3
import Derived.Test.YtacdfjlncfidgaaGreatDoorRD
namespace Go.Proofs.YtacdfjlncfidgaaGreatDoor
open Go.RowKit
set_option linter.unusedVariables false
set_option linter.unusedSimpArgs false
set_option maxHeartbeats 3200000
set_option maxRecDepth 100000
section
variable {P:Program} {α:Type} {cs:α→List Value} {sz:Nat}
theorem qG {w:World} {o:Obj} {g:Nat} (hg:g=w.heap.size):(w.alloc o).heap[g]?=some o:=by subst hg;exact heap_alloc_new _ _
theorem qba {ops:Array Oper} {o:Oper} {a:Act} {K:Act→World→Prop} {Q:Exit→Act→World→Prop} {E:Prop} (hgd:o.guard=none) (s x:Operand) (t:TypeId)
  (ho:o.op = .call { callee:=.builtin .append,args:=#[s,x],argTypes:=#[t,t] })
  (e:TypeId) (i:TypeInfo) (z:Value) (bytes:Nat) (ht:P.underlying t=some (.slice e)) (hi:P.info? e=some i) (hz:i.zero=some z)
  (hsize:i.size=sz) (hby:i.bytes=bytes) (hzs:z.cells.size=sz) (hsz:0<sz) (hone:∀ y,(cs y).length=sz) (hone1:∀ y,∀ u∈cs y,u.oneCell'=true)
  (w:World) (B g0:Nat) (v:Value) (l:List α) (y:α) (arr:Array Value) (fr:Nat×Nat) (harr:arr=(cs y).toArray) (hs:a.eval s=v) (hx:a.eval x = .slice (some ⟨g0,0,none⟩) 1 1)
  (hg0:w.heap[g0]?=some (.cells arr e fr)) (hown:Own cs sz e w B v l) (h63:l.length+1≤maxLen) (hbytes:(l.length+1)*bytes≤140737488355328) (hbase:B≤w.heap.size) (H:Nat) (hH:w.heap.size=H)
  (h:∀ g cap w',Own cs sz e w' B (.slice (some ⟨g,0,none⟩) (l.length+1) cap) (l++[y])→w.grownBy w' v.ownBlock→(v.ownBlock=some g∨g=H)→g<w'.heap.size →
   K (a.put o.dst (.slice (some ⟨g,0,none⟩) (l.length+1) cap)) w') :
  if Region.wanted o (yielded ops a.tmps)=true then Oper.wp P o a w K Q else E:=by
 subst harr
 refine step_append_lies _ hgd s x t ho B e i z sz bytes ht hi hz hsize hby hzs hsz v l.length (l.flatMap cs) hs hown ⟨g0,0,none⟩ 1 1 (cs y) hx (by rw[hone];omega)
  ?_ (hone1 y) zxo h63 hbytes hbase H hH ?_
 · have:=World.news_of_block hg0
   simpa using this
 · intro g cap w' hown' hg hat hlt
   refine h g cap w' ?_ hg hat hlt
   unfold Own
   simpa[List.flatMap_append] using hown'
theorem qr {ops:Array Oper} {rest:List Oper} {o:Oper} {a:Act} {Q:Exit→Act→World→Prop} (hgd:o.guard=none) (s x:Operand) (t:TypeId)
  (ho:o.op = .call { callee:=.builtin .append,args:=#[s,x],argTypes:=#[t,t] })
  (e:TypeId) (i:TypeInfo) (z:Value) (bytes:Nat) (ht:P.underlying t=some (.slice e)) (hi:P.info? e=some i) (hz:i.zero=some z)
  (hsize:i.size=sz) (hby:i.bytes=bytes) (hzs:z.cells.size=sz) (hsz:0<sz) (hone:∀ y,(cs y).length=sz) (hone1:∀ y,∀ u∈cs y,u.oneCell'=true)
  (W:World) (B g0:Nat) (v:Value) (l:List α) (y:α) (arr:Array Value) (harr:arr=(cs y).toArray) (hs:a.eval s=v) (hx:a.eval x = .slice (some ⟨g0,0,none⟩) 1 1) (hgs:g0=W.heap.size)
  (hown:Own cs sz e W B v l) (h63:l.length+1≤maxLen) (hbytes:(l.length+1)*bytes≤140737488355328) (hbase:B≤W.heap.size)
  (h:∀ g cap w',Own cs sz e w' B (.slice (some ⟨g,0,none⟩) (l.length+1) cap) (l++[y])→W.grownBy w' v.ownBlock→(v.ownBlock=some g∨g=W.heap.size+1)→g<w'.heap.size →
   wpList P ops Q rest (a.put o.dst (.slice (some ⟨g,0,none⟩) (l.length+1) cap)) w') :
  wpList P ops Q (o::rest) a (W.alloc (.cells arr e)):=by
 refine qo hgd s x t ho e i z bytes ht hi hz hsize hby hzs hsz hone hone1 W B g0 v l y arr harr hs hx hgs hown h63 hbytes hbase fun v' w' hown' hg hat=>?_
 obtain⟨g,cap,hv,hB,hlt⟩:∃ g cap,v' = .slice (some ⟨g,0,none⟩) (l.length+1) cap∧True∧g<w'.heap.size:=by
  rcases hown'.2 with⟨_,h0⟩ | ⟨g,cap,cur,hv,_,hgg,_⟩
  · rw[List.length_append] at h0;simp at h0
  · exact⟨g,cap,by rw[hv,List.length_append];rfl,trivial,(Array.getElem?_eq_some_iff.1 hgg).1⟩
 rw[hv] at hown' hat ⊢
 refine h g cap w' hown' hg ?_ hlt
 simp only[Value.ownBlock,Option.some.injEq] at hat
 rcases hat with e | e
 · exact .inl e.symm
 · exact .inr e
end
def Jn (k:Nat) (t:BL):Bool:=if k=1∨k=3∨k=4∨k=5 then true else if k=2 then jp endW t else decide (t=[41])||decide (t=[125])
theorem JI (s:ByteArray) (l:BL):(s.toList=l)↔s.data.toList=l:=by rw[ByteArray.toList_eq]
theorem qu4 (k:Nat) (t:ByteArray) (a b:Nat) (w:World) :
  Calls Tryz.prog 154 #[qcm k t a b] w fun e w'=>e = .returned (.bool (Jn k t.data.toList))∧Below w.heap.size w w':=by
 obtain⟨a0,a1,a2,a3,az,al⟩:=qq (jt w (.int .i64 (k:Int)) (.string t) (.int .i64 (a:Int)) (.int .i64 (b:Int)))
 have HB0:=zxi ((Below.refl w.heap.size w).alloc zxn (.cells #[.int .i64 (k:Int),.string t,.int .i64 (a:Int),.int .i64 (b:Int)] 128))
 unfold qcm
 by_cases k1:k=1
 · subst k1
   exact qkx
 have b1:((k:Int) == 1)=false:=beq_eq_false_iff_ne.2 zxo
 by_cases k3:k=3
 · subst k3
   exact qkx
 have b3:((k:Int) == 3)=false:=beq_eq_false_iff_ne.2 zxo
 by_cases k4:k=4
 · subst k4
   exact qkx
 have b4:((k:Int) == 4)=false:=beq_eq_false_iff_ne.2 zxo
 by_cases k5:k=5
 · subst k5
   exact qkx
 have b5:((k:Int) == 5)=false:=beq_eq_false_iff_ne.2 zxo
 have hv0:Jn k t.data.toList=if k=2 then jp endW t.data.toList else decide (t.data.toList=[41])||decide (t.data.toList=[125]):=by
  unfold Jn;rw[if_neg zxo]
 by_cases k2:k=2
 · subst k2
   rw[if_pos rfl] at hv0
   have HV:=zxi hv0
   have hc:=Tryz.slices_Contains_string (w.heap.size+1) 0 9 9 (endW.map qn) t ((w.alloc (.cells #[.int .i64 2,.string t,.int .i64 (a:Int),.int .i64 (b:Int)] 128)).alloc (.cells (endW.map fun l=>Value.string ⟨l.toArray⟩).toArray 9)) zxd zxd (qcJ endW _ _ (heap_alloc2_new w _ _))
   rw[show(endW.map qn).take 9=endW.map qn from List.take_of_length_le zxd,JQ] at hc
   have HC:=zxi hc
   have HB1:=zxi (HB0.out.alloc HB0.out.size (.cells (endW.map fun l=>Value.string ⟨l.toArray⟩).toArray 9))
   clear hc hv0 HB0
   go_enter Tryz.func154,Tryz.ntmps154
   go_wp2_with (first | (go_at_call 103;refine HC.out.mono ?_;rintro e w1 ⟨rfl,rfl⟩))
   go_ret
   exact⟨qi HV.out.symm,HB1.out⟩
 have b2:((k:Int) == 2)=false:=beq_eq_false_iff_ne.2 zxo
 rw[if_neg k2] at hv0
 by_cases t1:t.data.toList=[41]
 · have s1:t.toList=[41]:=(JI t _).2 t1
   have s2:(t.toList == [41])=true:=by rw[s1];rfl
   have HV:=zxi (show Jn k t.data.toList=true by rw[hv0,decide_eq_true t1];rfl)
   clear hv0 t1
   exact qoY
 have s1:¬ t.toList=[41]:=fun e=>t1 ((JI t _).1 e)
 have s2:(t.toList == [41])=false:=by simpa using s1
 by_cases t2:t.data.toList=[125]
 · have s3:t.toList=[125]:=(JI t _).2 t2
   have s4:(t.toList == [125])=true:=by rw[s3];rfl
   have HV:=zxi (show Jn k t.data.toList=true by rw[hv0,decide_eq_true t2];simp)
   clear hv0 t1 t2
   exact qoY
 · have s3:¬ t.toList=[125]:=fun e=>t2 ((JI t _).1 e)
   have s4:(t.toList == [125])=false:=by simpa using s3
   have HV:=zxi (show Jn k t.data.toList=false by rw[hv0,decide_eq_false t1,decide_eq_false t2];rfl)
   clear hv0 t1 t2
   exact qoY
def tkC (t:Tk):List Value:=[.int .i64 (t.kind:Int),.string (qn t.text),.int .i64 (t.fr:Int),.int .i64 (t.ed:Int)]
theorem qai (t:Tk):(tkC t).length=4:=rfl
theorem qcI (t:Tk):∀ u∈tkC t,u.oneCell'=true:=by
 intro u hu
 simp only[tkC,List.mem_cons,List.not_mem_nil,or_false] at hu
 rcases hu with rfl | rfl | rfl | rfl<;>rfl
def qff (last:Option Tk) (k:Nat) (t:ByteArray) (b:Nat):Prop:=match last with
 | none=>k=0∧t=⟨#[]⟩
 | some tk=>k=tk.kind∧t=qn tk.text∧b=tk.ed∧Jn tk.kind tk.text=JF tk
structure LSt (w0:World) (Lb Rb:Nat) (acc:List Tk) (last:Option Tk) (w:World):Prop where
 lcell:∃ v,w.heap[Lb]?=some (.cells #[v] 125 (0,0))∧Own tkC 4 128 w w0.heap.size v acc∧v.ownBlock≠some Lb∧v.ownBlock≠some Rb
 rcell:∃ (k:Nat) (t:ByteArray) (a b:Nat),w.heap[Rb]?=some (.cells #[.int .i64 (k:Int),.string t,.int .i64 (a:Int),.int .i64 (b:Int)] 128 (0,0))∧qff last k t b
 ne:Lb≠Rb
 lb:w0.heap.size≤Lb
 rb:w0.heap.size≤Rb
 below:Below w0.heap.size w0 w
theorem LSt.later {w0 w w':World} {Lb Rb:Nat} {acc:List Tk} {last:Option Tk} (h:LSt w0 Lb Rb acc last w) (hb:Below w.heap.size w w'):LSt w0 Lb Rb acc last w':=by
 obtain⟨v,h1,h2,h3,h4⟩:=h.lcell
 obtain⟨k,t,a,b,h5,h6⟩:=h.rcell
 exact⟨⟨v,qe h1 hb,h2.below hb,h3,h4⟩,⟨k,t,a,b,qe h5 hb,h6⟩,h.ne,h.lb,h.rb,h.below.trans (hb.mono h.below.size)⟩
theorem qkD {acc:List Tk} {last:Option Tk} {k:Nat} {t:ByteArray} {b:Nat} (h:qff last k t b):jC acc last=if Jn k t.data.toList=true then acc++[⟨7,[],b,b⟩] else acc:=by
 cases last with
 | none=>obtain⟨rfl,rfl⟩:=h;rfl
 | some tk =>
  obtain⟨rfl,rfl,rfl,e⟩:=h
  rw[qj,e];rfl
theorem jf {w:World} {b:Nat} {T:TypeId} {v:Value} (h:w.heap[b]?=some (.cells #[v] T (0,0))):w.cell? ⟨b,0,none⟩=some v∧(∀ j,w.frozen? ⟨b,j,none⟩=false)∧b<w.heap.size :=
 ⟨by rw[cell_of_row _ _ _ _ _ _ h];rfl,fun j=>by simp[World.frozen?,h],(Array.getElem?_eq_some_iff.1 h).1⟩
theorem qmj:(Tryz.prog.info? 128).map (fun i=>(i.zero,i.size,i.bytes))=some (some (.agg #[.int .i64 0,.string ⟨#[]⟩,.int .i64 0,.int .i64 0]),4,40):=by kernel_rfl
theorem qaZ {w w':World} {B:Nat} {v:Value} {l:List Tk} (h:Own tkC 4 128 w B v l) (hk:∀ q,v.ownBlock=some q→w'.heap[q]?=w.heap[q]?):Own tkC 4 128 w' B v l:=by
 refine⟨h.1,?_⟩
 rcases h.2 with hn | ⟨g,cap,cur,rfl,hB,hgg,rest⟩
 · exact .inl hn
 · exact .inr ⟨g,cap,cur,rfl,hB,by rw[hk g rfl];exact hgg,rest⟩
theorem qbZ {w:World} {b k:Nat} {x0 x1 x2 x3:Value} (h:k≠b):((((w.setCell ⟨b,0,none⟩ x0).setCell ⟨b,1,none⟩ x1).setCell ⟨b,2,none⟩ x2).setCell ⟨b,3,none⟩ x3).heap[k]?=w.heap[k]? :=
 (qu h).trans ((qu h).trans ((qu h).trans (qu h)))
theorem LSt.setLast {w0 w:World} {Lb Rb:Nat} {acc:List Tk} {last last':Option Tk} {k:Nat} {t:ByteArray} {a b:Nat} (h:LSt w0 Lb Rb acc last w) (hl:qff last' k t b) :
  LSt w0 Lb Rb acc last' ((((w.setCell ⟨Rb,0,none⟩ (.int .i64 (k:Int))).setCell ⟨Rb,1,none⟩ (.string t)).setCell ⟨Rb,2,none⟩ (.int .i64 (a:Int))).setCell ⟨Rb,3,none⟩ (.int .i64 (b:Int))):=by
 obtain⟨v,h1,h2,h3,h4⟩:=h.lcell
 obtain⟨k',t',a',b',h5,h6⟩:=h.rcell
 refine⟨⟨v,(qbZ h.ne).trans h1,qaZ h2 (fun q hq=>qbZ (fun e=>h4 (e ▸ hq))),h3,h4⟩,⟨k,t,a,b,qcz h5,hl⟩,h.ne,h.lb,h.rb,qaq h.below h.rb⟩
theorem LSt.push {w0 w w2:World} {Lb Rb g cap:Nat} {acc:List Tk} {last:Option Tk} {y:Tk} {v:Value} (h:LSt w0 Lb Rb acc last w) (hv:w.heap[Lb]?=some (.cells #[v] 125 (0,0))) (ho:Own tkC 4 128 w w0.heap.size v acc)
  (ho2:Own tkC 4 128 w2 w0.heap.size (.slice (some ⟨g,0,none⟩) (acc.length+1) cap) (acc++[y])) (hg:w.grownBy w2 v.ownBlock) (hat:v.ownBlock=some g∨g=w.heap.size+1) (h3:v.ownBlock≠some Lb) (h4:v.ownBlock≠some Rb) :
  LSt w0 Lb Rb (acc++[y]) last (w2.setCell ⟨Lb,0,none⟩ (.slice (some ⟨g,0,none⟩) (acc.length+1) cap)):=by
 obtain⟨k,t,a,b,h5,h6⟩:=h.rcell
 have hLlt:=(Array.getElem?_eq_some_iff.1 hv).1
 have hRlt:=(Array.getElem?_eq_some_iff.1 h5).1
 have e1:w2.heap[Lb]?=some (.cells #[v] 125 (0,0)):=(hg.block Lb hLlt (fun e=>h3 e.symm)).trans hv
 have e2:w2.heap[Rb]?=some (.cells #[.int .i64 (k:Int),.string t,.int .i64 (a:Int),.int .i64 (b:Int)] 128 (0,0)):=(hg.block Rb hRlt (fun e=>h4 e.symm)).trans h5
 have hgL:g≠Lb:=by
  rcases hat with e | e
  · exact fun e2=>h3 (e2 ▸ e)
  · omega
 have hgR:g≠Rb:=by
  rcases hat with e | e
  · exact fun e2=>h4 (e2 ▸ e)
  · omega
 refine⟨⟨_,qU e1,qaZ ho2 (fun q hq=>qu (fun e=>hgL (by simp[Value.ownBlock] at hq;omega))),fun e=>hgL (by simpa[Value.ownBlock] using e),fun e=>hgR (by simpa[Value.ownBlock] using e)⟩,
  ⟨k,t,a,b,(qu (fun e=>h.ne e.symm)).trans e2,h6⟩,h.ne,h.lb,h.rb,(h.below.grown hg h.below.size (fun q hq=>(Own.lt ho q hq).1)).setCell (p:=⟨Lb,0,none⟩) h.lb _⟩
theorem qrH (w0:World) (Lb Rb:Nat) (acc:List Tk) (last:Option Tk) (w:World) (h:LSt w0 Lb Rb acc last w) (hl:acc.length≤1000000) :
  Calls Tryz.prog 153 #[.pointer (some ⟨Rb,0,none⟩),.pointer (some ⟨Lb,0,none⟩)] w fun e w'=>e = .returned (.tuple #[])∧LSt w0 Lb Rb (jC acc last) none w':=by
 obtain⟨i32',hi32,hz0,hz1,hz2⟩:=jg qmj
 obtain⟨v,h1,h2,h3,h4⟩:=h.lcell
 obtain⟨k,t,a,b,h5,h6⟩:=h.rcell
 have hne:=h.ne
 have hnr:Rb≠Lb:=fun e=>hne e.symm
 obtain⟨r0,r1,r2,r3,rz,rl⟩:=qq h5
 have hcl:=qkD (acc:=acc) h6
 have HE:=zxi (qu4 k t a b w)
 unfold qcm at HE
 have H:=zxi h
 have H1:=zxi h1
 have H2:=zxi h2
 have H5:=zxi h5
 cases he:Jn k t.data.toList with
 | false =>
  rw[he] at HE
  have HC:=zxi (show jC acc last=acc by rw[hcl,he];rfl)
  clear h1 h2 h5 h6 hcl he h
  go_enter Tryz.func153,Tryz.ntmps153
  go_wp2_with (first | (go_at_call 154;refine HE.out.mono ?_;rintro e w1 ⟨rfl,hb1⟩;obtain⟨q0,q1,q2,q3,qz,ql⟩:=qq (qe H5.out hb1);have HB:=zxi hb1;clear hb1))
  go_end0
  refine⟨rfl,?_⟩
  rw[HC.out]
  exact(H.out.later HB.out).setLast (k:=0) (t:=⟨#[]⟩) (a:=0) (b:=0) ⟨rfl,rfl⟩
 | true =>
  rw[he] at HE
  have HC:=zxi (show jC acc last=acc++[⟨7,[],b,b⟩] by rw[hcl,he];rfl)
  have H34:=zxi (And.intro h3 h4)
  clear h1 h2 h5 h6 hcl he h h3 h4
  go_enter Tryz.func153,Tryz.ntmps153
  go_wp2_with (first | (go_at_call 154;refine HE.out.mono ?_;rintro e w1 ⟨rfl,hb1⟩;obtain⟨q0,q1,q2,q3,qz,ql⟩:=qq (qe H5.out hb1);obtain⟨l0,lz,ll⟩:=jf (qe H1.out hb1);have HO1:=zxi (H2.out.below hb1);have HV1:=zxi (qe H1.out hb1);have HW:=zxi (H.out.later hb1);clear hb1) | (at_builtin;go_must (refine qr (cs:=tkC) rfl _ _ 125 rfl 128 i32' _ 40 Tryz.underlying125 hi32 hz0 hz1 hz2 rfl zxd qai qcI w1 w0.heap.size w1.heap.size v acc ⟨7,[],b,b⟩ _ rfl (by rfl) (by rfl) rfl HO1.out (by unfold maxLen;omega) zxo HW.out.below.size ?_;intro g cap w2 ho2 hg2 hat2 hlt2;have HP:=zxi (HW.out.push HV1.out HO1.out ho2 hg2 hat2 H34.out.1 H34.out.2);have hL2:=(hg2.block Lb ll (fun e=>H34.out.1 e.symm)).trans HV1.out;obtain⟨m0,mz,ml⟩:=jf hL2;obtain⟨k',t',a',b',hR2,_⟩:=HP.out.rcell;obtain⟨n0,n1,n2,n3,nz,nl⟩:=qq hR2;clear ho2 hg2 hat2 hlt2 hL2 hR2)))
  go_end0
  refine⟨rfl,?_⟩
  rw[HC.out]
  exact HP.out.setLast (k:=0) (t:=⟨#[]⟩) (a:=0) (b:=0) ⟨rfl,rfl⟩
def blanksB:ByteArray:=⟨#[32,9,13]⟩
theorem qjp:(blanksB.data.toList.contains ·)=qc2:=qfN (by decide +kernel)
theorem qh4 {c:UInt8} (b:Bool) (h:qc2 c=b):blanksB.data.toList.contains c=b:=(congrFun qjp c).trans h
theorem qbI:∀ (x y:List UInt8),(∀ c∈x,c≠10)→Lib.index (x++10::y) [10]=(x.length:Int)
 | [],y,_=>by simp[Lib.index,List.isPrefixOf]
 | c::x,y,h=>by
  have hc:c≠10:=h c zxs
  have ih:=qbI x y (fun c hc=>h c (by simp[hc]))
  simp only[List.cons_append,Lib.index,List.isPrefixOf,Bool.and_true]
  have h1:((10:UInt8) == c)=false:=by simpa using fun e=>hc e.symm
  rw[h1]
  simp only[Bool.false_eq_true,if_false]
  rw[ih]
  have:((x.length:Int) == -1)=false:=beq_eq_false_iff_ne.2 zxo
  rw[this];simp
theorem qa9:∀ (x:List UInt8),(∀ c∈x,c≠10)→Lib.index x [10] = -1
 | [],_=>by simp[Lib.index,List.isPrefixOf]
 | c::x,h=>by
  have hc:c≠10:=h c zxs
  have ih:=qa9 x (fun c hc=>h c (by simp[hc]))
  simp only[Lib.index,List.isPrefixOf,Bool.and_true]
  have h1:((10:UInt8) == c)=false:=by simpa using fun e=>hc e.symm
  rw[h1]
  simp only[Bool.false_eq_true,if_false]
  rw[ih];rfl
theorem qm4 (L:BL):(∀ c∈L,c≠10)∨∃ x y,L=x++10::y∧∀ c∈x,c≠10:=by
 induction L with
 | nil=>exact .inl (fun _ h=>by cases h)
 | cons a L ih =>
  by_cases h:a=10
  · exact .inr ⟨[],L,by rw[h];rfl,fun _ h=>by cases h⟩
  · rcases ih with ih | ⟨x,y,e,hx⟩
    · exact .inl (fun c hc=>by
       rcases List.mem_cons.1 hc with rfl | hc
       · exact h
       · exact ih c hc)
    · exact .inr ⟨a::x,y,by rw[e];rfl,fun c hc=>by
       rcases List.mem_cons.1 hc with rfl | hc
       · exact h
       · exact hx c hc⟩
theorem qo5 {x:BL} (h:∀ c∈x,c≠10) (y:BL):qaP (x++10::y)=x.length:=by
 unfold qaP
 induction x with
 | nil=>rfl
 | cons a x ih =>
  have ha:decide (a.toNat≠10)=true:=decide_eq_true (fun e=>h a zxs (UInt8.toNat_inj.1 e))
  rw[List.cons_append,List.takeWhile_cons,ha]
  simp only[if_true,List.length_cons,ih (fun c hc=>h c (by simp[hc]))]
theorem qk5 {x:BL} (h:∀ c∈x,c≠10):qaP x=x.length:=by
 unfold qaP
 induction x with
 | nil=>rfl
 | cons a x ih =>
  have ha:decide (a.toNat≠10)=true:=decide_eq_true (fun e=>h a zxs (UInt8.toNat_inj.1 e))
  rw[List.takeWhile_cons,ha]
  simp only[if_true,List.length_cons,ih (fun c hc=>h c (by simp[hc]))]
theorem qvk (L:BL):(Lib.cut L [10]).1.length=qaP L:=by
 rcases qm4 L with h | ⟨x,y,rfl,h⟩
 · unfold Lib.cut
   rw[qa9 L h,if_neg zxd,qk5 h]
 · unfold Lib.cut
   rw[qbI x y h,if_pos zxo,Int.toNat_natCast,qo5 h,List.take_left]
theorem qxB (s:ByteArray) (w:World) (hs:s.size≤1000000) (hG:LexG w):Calls Tryz.prog 156 #[.string s,.string ⟨#[10]⟩] w fun e w'=>(∃ (x y:ByteArray) (b:Bool),e = .returned (.tuple #[.string x,.string y,.bool b])∧x.size=qaP s.data.toList)∧∃ n,w'=w.drewN n:=by
 obtain⟨m,hm⟩:=hG.g3.g2.glob.knows.maxlen
 refine(Tryz.strings_Cut s ⟨#[10]⟩ m w zxo hm).mono ?_
 rintro e w' ⟨rfl,n,rfl⟩
 refine⟨⟨_,_,_,rfl,?_⟩,n,rfl⟩
 show(Lib.cut s.data.toList [10]).1.toArray.size=_
 rw[List.size_toArray,qvk]
theorem qpE (s:ByteArray) (w:World):Calls Tryz.prog 155 #[.string s,.string ⟨#[47,47]⟩] w fun e w'=>e = .returned (.bool (decide (s.data.toList.head?=some 47∧s.data.toList.tail.head?=some 47)))∧w'=w:=by
 refine(Tryz.strings_HasPrefix s ⟨#[47,47]⟩ w).mono ?_
 rintro e w' ⟨rfl,rfl⟩
 refine⟨qi ?_,rfl⟩
 unfold Lib.hasPrefix
 show[47,47].isPrefixOf s.data.toList=_
 match s.data.toList with
 | []=>rfl
 | [a]=>simp[List.isPrefixOf]
 | a::b::r =>
  simp only[List.isPrefixOf,Bool.and_true,List.head?_cons,List.tail_cons]
  rw[Bool.eq_iff_iff]
  simp only[Bool.and_eq_true,beq_iff_eq,decide_eq_true_eq,Option.some.injEq]
  exact⟨fun⟨h1,h2⟩=>⟨h1.symm,h2.symm⟩,fun⟨h1,h2⟩=>⟨h1.symm,h2.symm⟩⟩
theorem qcN {fn:Func} {p u v:Tmp} {ty:TypeId} (h:fn.results=#[.cell p ty,.tmp u,.tmp v]) (tmps:Array Value) (P:Program) (w:World) :
  (results fn tmps).run P w =
   ((asAddr (tmps.getD p undef)).run P w).andThen fun a w₁=>((loadVar ty a).run P w₁).andThen fun x w₂=>.ok (.tuple #[x,tmps.getD u undef,tmps.getD v undef]) w₂:=by
 simp only[results,h]
 simp[Sem.run_bind,Result.andThen]
theorem qjU {w:World} {b:Nat} {v:Value} (h:w.heap[b]?=some (.cells #[v] 125 (0,0))):(loadVar 125 ⟨b,0,none⟩).run Tryz.prog w = .ok v w:=by
 have c0:=(jf h).1
 have ha:=Tryz.isAgg125 w
 simp only[loadVar,Sem.run_bind,ha,Result.andThen_ok]
 show(Sem.run Tryz.prog (load ⟨b,0,none⟩) w)=_
 rw[run_load,c0]
noncomputable def ja (L:BL):Except (Nat×Int) (List Tk) :=
 if 65536<L.length then .error (65536,3) else match qcb L 0 with
 | some k=>.error (k,8)
 | none=>Jt eFv L 0 [] none
def jj (w:World) (L:BL) (e:Ending) (w':World):Prop:=match ja L with
 | .ok l=>∃ v,e = .returned (.tuple #[v,.int .i64 0,.int .i64 0])∧Own tkC 4 128 w' w.heap.size v l∧l.length≤65537
 | .error (p,er)=>e = .returned (.tuple #[.slice none 0 0,.int .i64 (p:Nat),.int .i64 er])
end Go.Proofs.YtacdfjlncfidgaaGreatDoor
