/- What this law leans on beside the rest. -/
import Derived.RangeFuncOwn
import Derived.RangeFuncCalls
import Derived.RangeFuncLeaves
import Derived.TacticsIn
import Derived.OwnWalkIn
import Derived.LoopIn
import Derived.Laws.EntriesVeiled
import Derived.Deep.Cut
import Derived.Test.YtacdfjlncfidgaaGreatDoorRA
import Derived.Test.YtacdfjlncfidgaaGreatDoorQB
import Derived.Test.YtacdfjlncfidgaaGreatDoorTB
import Derived.Test.YtacdfjlncfidgaaGreatDoorRB
import Derived.Test.YtacdfjlncfidgaaGreatDoorRE
import Derived.Test.YtacdfjlncfidgaaGreatDoorRD
import Derived.Test.YtacdfjlncfidgaaGreatDoorRF
import Derived.Test.YtacdfjlncfidgaaGreatDoorRC
import Derived.Test.YtacdfjlncfidgaaGreatDoorRI
import Derived.Test.YtacdfjlncfidgaaGreatDoorTM
import Derived.Test.YtacdfjlncfidgaaGreatDoorTO
import Derived.Test.YtacdfjlncfidgaaGreatDoorRQ
namespace Go.Proofs.YtacdfjlncfidgaaGreatDoor
open Go.RowKit
set_option linter.unusedVariables false
set_option linter.unusedSimpArgs false
set_option maxRecDepth 100000
set_option maxHeartbeats 60000000
mutual
def eachV:Tree→List Tree
 | .mk k f t a n l=>if k=0 then [] else .mk k f t a n l::eachL l
def eachL:List Tree→List Tree
 | []=>[]
 | t::l=>eachV t++eachL l
end
mutual
def pathV (from_ to_:Int):Tree→List Tree
 | .mk k f t a n l=>if k=0∨f>from_∨from_>to_∨to_>t then [] else .mk k f t a n l::pathL from_ to_ l
def pathL (from_ to_:Int):List Tree→List Tree
 | []=>[]
 | t::l=>if (pathV from_ to_ t).isEmpty then pathL from_ to_ l else pathV from_ to_ t
end
def tightL (to_:Int):Int→List Tree→Bool
 | _,[]=>true
 | last,k::l=>if k.kind=0 then tightL to_ last l else decide (last≤k.fr)&&decide (k.en≤to_)&&tightL to_ (max last k.en) l
def tightV (size:Int) (n:Tree):Bool:=decide (0≤n.fr)&&decide (n.fr≤n.at_)&&decide (n.at_≤n.en)&&decide (n.en≤size)&&tightL n.en n.fr n.kids
def placedV (size:Int) (t:Tree):Bool:=(eachV t).all (tightV size)
def hasV (fr to_:Int) (t:Tree):Bool:=decide (t.kind≠0)&&decide (t.fr≤fr)&&decide (to_≤t.en)
section
variable (nm:BL→Bool) (tok:BL→Int→Bool)
theorem known1 (hx:nm [120]=true) (hp:nm [112]=true) (hf:nm [102]=true) (ha:nm [97]=true) (hT:nm [84]=true):jY nm tok (jL [qiB (qeR [124,124] xT (qeR [38,38] xT xT))])=0:=by
 rw[qgv nm tok _ hp hf (by decide)]
 simp[qeR,xT,quS,qo1,qhh,quI,qc4,qiB,qaF,qvN,qve,qaC,J2,isR,JB,qj1,qJ,QP,qL,qc1,qK,jh,j8,Tree.kind,Tree.name,Tree.kids,jV,levW,builtW,QC,Qz,List.findIdx?,List.findIdx?.go,hx,hf,ha,hT]
theorem known2 (hx:nm [120]=true) (hp:nm [112]=true) (hf:nm [102]=true) (ha:nm [97]=true) (hT:nm [84]=true):jY nm tok (jL [qiB (.mk 30 0 0 0 [45] [xT])])=0:=by
 rw[qgv nm tok _ hp hf (by decide)]
 simp[qeR,xT,quS,qo1,qhh,quI,qc4,qiB,qaF,qvN,qve,qaC,J2,isR,JB,qj1,qJ,QP,qL,qc1,qK,jh,j8,Tree.kind,Tree.name,Tree.kids,jV,levW,builtW,QC,Qz,List.findIdx?,List.findIdx?.go,hx,hf,ha,hT]
theorem known3 (hx:nm [120]=true) (hp:nm [112]=true) (hf:nm [102]=true) (ha:nm [97]=true) (hT:nm [84]=true) (h01:tok [48,49] 3=false):jY nm tok (jL [qiB (.mk 21 0 0 0 [48,49] [])])=4:=by
 rw[qgv nm tok _ hp hf (by decide)]
 simp[qeR,xT,quS,qo1,qhh,quI,qc4,qiB,qaF,qvN,qve,qaC,J2,isR,JB,qj1,qJ,QP,qL,qc1,qK,jh,j8,Tree.kind,Tree.name,Tree.kids,jV,levW,builtW,QC,Qz,List.findIdx?,List.findIdx?.go,hx,hf,ha,hT,h01]
theorem known4 (hx:nm [120]=true) (hp:nm [112]=true) (hf:nm [102]=true) (ha:nm [97]=true) (hT:nm [84]=true):jY nm tok (jL [qaF (quI (quS [102]) [qhh])])=0:=by
 rw[qgv nm tok _ hp hf (by decide)]
 simp[qeR,xT,quS,qo1,qhh,quI,qc4,qiB,qaF,qvN,qve,qaC,J2,isR,JB,qj1,qJ,QP,qL,qc1,qK,jh,j8,Tree.kind,Tree.name,Tree.kids,jV,levW,builtW,QC,Qz,List.findIdx?,List.findIdx?.go,hx,hf,ha,hT]
theorem known5 (hx:nm [120]=true) (hp:nm [112]=true) (hf:nm [102]=true) (ha:nm [97]=true) (hT:nm [84]=true):jY nm tok (jL [qvN (.mk 12 0 0 0 [120] [xT])])=4:=by
 rw[qgv nm tok _ hp hf (by decide)]
 simp[qeR,xT,quS,qo1,qhh,quI,qc4,qiB,qaF,qvN,qve,qaC,J2,isR,JB,qj1,qJ,QP,qL,qc1,qK,jh,j8,Tree.kind,Tree.name,Tree.kids,jV,levW,builtW,QC,Qz,List.findIdx?,List.findIdx?.go,hx,hf,ha,hT]
theorem known6 (hx:nm [120]=true) (hp:nm [112]=true) (hf:nm [102]=true) (ha:nm [97]=true) (hT:nm [84]=true):jY nm tok (jL [qve xT])=4:=by
 rw[qgv nm tok _ hp hf (by decide)]
 simp[qeR,xT,quS,qo1,qhh,quI,qc4,qiB,qaF,qvN,qve,qaC,J2,isR,JB,qj1,qJ,QP,qL,qc1,qK,jh,j8,Tree.kind,Tree.name,Tree.kids,jV,levW,builtW,QC,Qz,List.findIdx?,List.findIdx?.go,hx,hf,ha,hT]
theorem known7 (hx:nm [120]=true) (hp:nm [112]=true) (hf:nm [102]=true) (ha:nm [97]=true) (hT:nm [84]=true):jY nm tok (jL [qve (quI (quS [102]) [xT])])=0:=by
 rw[qgv nm tok _ hp hf (by decide)]
 simp[qeR,xT,quS,qo1,qhh,quI,qc4,qiB,qaF,qvN,qve,qaC,J2,isR,JB,qj1,qJ,QP,qL,qc1,qK,jh,j8,Tree.kind,Tree.name,Tree.kids,jV,levW,builtW,QC,Qz,List.findIdx?,List.findIdx?.go,hx,hf,ha,hT]
theorem known8 (hx:nm [120]=true) (hp:nm [112]=true) (hf:nm [102]=true) (ha:nm [97]=true) (hT:nm [84]=true):jY nm tok (jL [qve (.mk 32 0 0 0 [108,101,110] [xT])])=4:=by
 rw[qgv nm tok _ hp hf (by decide)]
 simp[qeR,xT,quS,qo1,qhh,quI,qc4,qiB,qaF,qvN,qve,qaC,J2,isR,JB,qj1,qJ,QP,qL,qc1,qK,jh,j8,Tree.kind,Tree.name,Tree.kids,jV,levW,builtW,QC,Qz,List.findIdx?,List.findIdx?.go,hx,hf,ha,hT]
theorem known9 (hx:nm [120]=true) (hp:nm [112]=true) (hf:nm [102]=true) (ha:nm [97]=true) (hT:nm [84]=true):jY nm tok (jL [qve (quI (quI (quS [102]) [xT]) [xT])])=4:=by
 rw[qgv nm tok _ hp hf (by decide)]
 simp[qeR,xT,quS,qo1,qhh,quI,qc4,qiB,qaF,qvN,qve,qaC,J2,isR,JB,qj1,qJ,QP,qL,qc1,qK,jh,j8,Tree.kind,Tree.name,Tree.kids,jV,levW,builtW,QC,Qz,List.findIdx?,List.findIdx?.go,hx,hf,ha,hT]
end
section
def Stays (J:Nat→World→Prop):Prop:=∀ k W W',J k W→Below W.heap.size W W'→J k W'
theorem Kept.of_below {M:Nat→Prop} {A B:World} (h:Below A.heap.size A B):Kept M A B:=⟨h.size,fun b hb _=>h.block b hb⟩
theorem Kept.putObj (M:Nat→Prop) (A:World) (r:Nat) (o:Obj) (h:M r):Kept M A (A.putObj r o) :=
 ⟨by simp,fun b _ hm=>World.putObj_heap_other fun e=>hm (e ▸ h)⟩
theorem below_putObj {B:Nat} (A:World) (r:Nat) (o:Obj) (h:B≤r):Below B A (A.putObj r o) :=
 ⟨rfl,rfl,rfl,by simp,fun k hk=>World.putObj_heap_other (by omega)⟩
def StaysX (J:World→Prop):Prop:=∀ W W',J W→Below W.heap.size W W'→J W'
def Hands2 (P:Program) (gf:Nat) (lb:Array Value) (N:Nat) (el:Nat→Value) (KK:World→Prop):Prop :=
 ∀ (l:Nat) (J:Nat→World→Prop) (Jx:World→Prop) (M:Nat→Prop) (W:World),(∀ b,M b→b<W.heap.size)→Stays J→StaysX Jx→(∀ k W1,J k W1→KK W1∧W.heap.size≤W1.heap.size) →
  (∀ k W1,J k W1→k<N→YieldAt Fence.wide 0 P l #[el k] W1 fun e W'=>(e = .returned (.bool true)∧J (k+1) W'∧Kept M W1 W')∨(e = .returned (.bool false)∧Jx W'))→J 0 W →
  Calls P gf (#[.func (.yield l) #[] #[]]++lb) W fun e W'=>(∃ v,e = .returned v)∧(J N W'∨Jx W')
def RoundPost (Mc:Nat→Prop) (I:Nat→World→Prop) (Ix:Code→World→Prop) (k:Nat) (W:World):Exit→Act→World→Prop:=fun e _ W'=>Kept Mc W W'∧match e with
 | .normal=>I (k+1) W'
 | .ret=>Ix .ret W'
 | .exit id=>Ix (.exit id) W'
 | _=>False
variable {P:Program}
theorem wide_range3 {g:Operand} {p:Tmp} {assign body:Code} {Q:Exit→Act→World→Prop} {a:Act} {w:World} {gf:Nat} {lb:Array Value}
  (hg:a.eval g = .func (.func gf) #[] lb) (eg:∀ args w,(callFunc gf args).run P w = .ok (.enter gf args) w)
  {N:Nat} {el:Nat→Value} {KK:World→Prop} (hseq:Hands2 P gf lb N el KK) (I:Nat→World→Prop) (Ix:Code→World→Prop) (Mc:Nat→Prop) (hMc:∀ b,Mc b→b<w.heap.size)
  (hI:∀ k W W',I k W→Below w.heap.size W W'→I k W') (hIx:∀ c W W',Ix c W→Below w.heap.size W W'→Ix c W') (hKK:∀ k W,I k W→KK W) (h0:I 0 w) (a₁:Nat→Nat→Act) (ob:Nat→Obj)
  (hassign:∀ (l k:Nat) (W:World) (K:Act→World→Prop),K (a₁ k W.heap.size) (W.alloc (ob k)) →
   assign.wpIn (Fence.wide.inRound l) 0 P (Exit.then K (fun _ _ _=>False)) { tmps:=a.tmps.setIfInBounds p (el k),defers:=[] } W)
  (hbody:∀ (l k b:Nat) (W:World),I k W→k<N→W.heap[b]?=some (ob k)→w.heap.size≤b→body.wpIn (Fence.wide.inRound l) 0 P (RoundPost Mc I Ix k W) (a₁ k b) W)
  (hdone:∀ (D:Nat) (W:World),w.heap.size≤D→I N W→W.heap[D]?=some (.deferred (some []))→Q .normal { a with defers:={ target:=.collected D,args:=#[] }::a.defers } W)
  (hstop:∀ (D:Nat) (c:Code) (W:World),w.heap.size≤D→Ix c W→W.heap[D]?=some (.deferred (some []))→c.wpIn Fence.wide 0 P Q { a with defers:={ target:=.collected D,args:=#[] }::a.defers } W) :
  (Code.rangeFunc g #[p] assign body).wpIn Fence.wide 0 P Q a w:=by
 refine wpIn_rangeFunc fun fn hfn=>?_
 obtain⟨rec,hrec⟩:∃ rec:LoopState→Option Code→Loop,rec=fun st pe=>{ state:=st,pending:=pe,fn,tmps:=a.tmps,params:=#[p],assign,body,defers:=w.heap.size }:=⟨_,rfl⟩
 generalize hW1:(w.alloc (.deferred (some []))).alloc (.loop (rec .ready none))=W1
 have hL1:W1.heap[w.heap.size+1]?=some (.loop (rec .ready none)):=by
  rw[← hW1]
  have:=World.alloc_heap_new (w.alloc (.deferred (some []))) (.loop (rec .ready none))
  rwa [World.size_alloc] at this
 have hK1:W1.heap[w.heap.size]?=some (.deferred (some [])):=by
  rw[← hW1]
  exact(Below.heap_alloc _ _ _ (by simp)).trans (World.alloc_heap_new w _)
 have hs1:W1.heap.size=w.heap.size+2:=by rw[← hW1];simp
 have hI1:I 0 W1:=hI 0 w W1 h0 (by rw[← hW1];exact((Below.refl _ _).alloc (Nat.le_refl _) _).alloc (by simp) _)
 let J:Nat→World→Prop:=fun k W=>I k W∧W.heap[w.heap.size+1]?=some (.loop (rec .ready none))∧W.heap[w.heap.size]?=some (.deferred (some []))
 let Jx:World→Prop:=fun W=>∃ c,Ix c W∧W.heap[w.heap.size+1]?=some (.loop (rec .done (some c)))∧W.heap[w.heap.size]?=some (.deferred (some []))
 have hJs:Stays J:=fun k W W' ⟨hi,hl,hk⟩ hb=>by
  have hlt:=(Array.getElem?_eq_some_iff.1 hl).1
  exact⟨hI k W W' hi (hb.mono (by omega)),(hb.block _ hlt).trans hl,(hb.block _ (by omega)).trans hk⟩
 have hJxs:StaysX Jx:=fun W W' ⟨c,hi,hl,hk⟩ hb=>by
  have hlt:=(Array.getElem?_eq_some_iff.1 hl).1
  exact⟨c,hIx c W W' hi (hb.mono (by omega)),(hb.block _ hlt).trans hl,(hb.block _ (by omega)).trans hk⟩
 refine⟨w.heap.size+1,[{ target:=.collected w.heap.size,args:=#[] }],W1,{ target:=.fn (.func gf) lb,args:=#[.func (.yield (w.heap.size+1)) #[] #[]] },W1,gf,
  #[.func (.yield (w.heap.size+1)) #[] #[]]++lb,W1,?_,?_,fun _ _=>trivial,?_,fun h=>by simp[Fence.wide] at h,?_⟩
 · rw[← hW1,hrec];exact run_enterLoop_outer (P:=P) (w:=w) fn a.tmps #[p] assign body
 · simp only[resolve,hg]
   simp[go_sem]
 · simp[invoke,go_sem,eg]
 · refine(callsIn_wide.2 (hseq (w.heap.size+1) J Jx (fun b=>Mc b∨b=w.heap.size+1) W1 ?_ hJs hJxs (fun k W h=>⟨hKK k W h.1,?_⟩) ?_ (show J 0 W1 from⟨hI1,hL1,hK1⟩))).mono ?_
   · rintro b (hb | rfl)
     · have:=hMc b hb;omega
     · omega
   · have:=(Array.getElem?_eq_some_iff.1 h.2.1).1
     omega
   · rintro k W ⟨hi,hl,hk⟩ hlt
     have hsz:w.heap.size+1<W.heap.size:=(Array.getElem?_eq_some_iff.1 hl).1
     have hy:=run_yield (P:=P) (args:=#[el k]) hl (by rw[hrec];rfl)
     rw[hrec] at hy
     have hz:Array.foldl (fun tmps (x:Nat×Value)=>tmps.setIfInBounds x.1 x.2) a.tmps (#[p].zip #[el k])=a.tmps.setIfInBounds p (el k):=by simp
     change _=Result.ok (Next.round _ _ (Array.foldl (fun tmps (x:Nat×Value)=>tmps.setIfInBounds x.1 x.2) a.tmps (#[p].zip #[el k])) _ _) _ at hy
     rw[hz] at hy
     refine⟨fn,_,assign,body,hy,roundIn_of_wpIn hfn (hassign _ k W _ ?_)⟩
     have hl1:(W.alloc (ob k)).heap[w.heap.size+1]?=some (.loop (rec .ready none)):=(Below.heap_alloc W (ob k) _ hsz).trans hl
     have hk1:(W.alloc (ob k)).heap[w.heap.size]?=some (.deferred (some [])):=(Below.heap_alloc W (ob k) _ (by omega)).trans hk
     have hsA:(W.alloc (ob k)).heap.size=W.heap.size+1:=World.size_alloc _ _
     have hiA:I k (W.alloc (ob k)):=hI _ _ _ hi (((Below.refl _ _).alloc (Nat.le_refl _) _).mono (by omega))
     have hbA:((W.alloc (ob k)).putObj (w.heap.size+1) (.loop { rec .ready none with state:=.busy })).heap[W.heap.size]?=some (ob k):=(World.putObj_heap_other (by omega)).trans (World.alloc_heap_new W (ob k))
     have hKA:Kept (fun b=>Mc b∨b=w.heap.size+1) W (W.alloc (ob k)):=Kept.of_below ((Below.refl _ _).alloc (Nat.le_refl _) _)
     clear hl hk hi
     generalize hWA:W.alloc (ob k)=WA at *
     refine⟨_,run_beginRound hl1 (by rw[hrec]),?_⟩
     have hszA:w.heap.size+1<WA.heap.size:=by omega
     have hl2:(WA.putObj (w.heap.size+1) (.loop { rec .ready none with state:=.busy })).heap[w.heap.size+1]?=some (.loop { rec .ready none with state:=.busy }):=World.putObj_heap_same hszA
     have hk2:(WA.putObj (w.heap.size+1) (.loop { rec .ready none with state:=.busy })).heap[w.heap.size]?=some (.deferred (some [])):=(World.putObj_heap_other (by omega)).trans hk1
     have hsz2:(WA.putObj (w.heap.size+1) (.loop { rec .ready none with state:=.busy })).heap.size=WA.heap.size:=by simp
     refine wpIn_mono (hbody _ k _ _ (hI _ _ _ hiA (below_putObj _ _ _ (by omega))) hlt hbA (by omega)) ?_
     have fin:∀ (jump:Option Code) (W3:World),Kept Mc (WA.putObj (w.heap.size+1) (.loop { rec .ready none with state:=.busy })) W3 →
       (Instr.endRound (w.heap.size+1) jump).run P W3 = .ok (.bool jump.isNone) (W3.putObj (w.heap.size+1) (.loop (rec (if jump.isNone then .ready else .done) jump))) ∧
       w.heap.size+2≤W3.heap.size ∧
       (W3.putObj (w.heap.size+1) (.loop (rec (if jump.isNone then .ready else .done) jump))).heap[w.heap.size+1]?=some (.loop (rec (if jump.isNone then .ready else .done) jump)) ∧
       (W3.putObj (w.heap.size+1) (.loop (rec (if jump.isNone then .ready else .done) jump))).heap[w.heap.size]?=some (.deferred (some [])):=fun jump W3 hko=>by
      have hl3:=(hko.2 (w.heap.size+1) (by omega) (fun h=>by have:=hMc _ h;omega)).trans hl2
      have hk3:=(hko.2 w.heap.size (by omega) (fun h=>by have:=hMc _ h;omega)).trans hk2
      have:=run_endRound (P:=P) jump hl3
      rw[hrec] at this ⊢
      exact⟨this,(Array.getElem?_eq_some_iff.1 hl3).1,World.putObj_heap_same (Array.getElem?_eq_some_iff.1 hl3).1,(World.putObj_heap_other (by omega)).trans hk3⟩
     rintro e a3 W3 ⟨hko,hp⟩
     cases e with
     | normal =>
      obtain⟨hr,hl3,hl4,hk4⟩:=fin none W3 hko
      exact⟨_,_,hr,.inl ⟨rfl,⟨hI _ _ _ hp (below_putObj _ _ _ (by omega)),hl4,hk4⟩,hKA.trans (((Kept.putObj (fun b=>Mc b∨b=w.heap.size+1) WA _ _ (.inr rfl)).trans (hko.mono fun b h=>.inl h)).trans (Kept.putObj _ _ _ _ (.inr rfl)))⟩⟩
     | ret =>
      obtain⟨hr,hl3,hl4,hk4⟩:=fin (some .ret) W3 hko
      exact⟨_,_,hr,.inr ⟨rfl,.ret,hIx _ _ _ hp (below_putObj _ _ _ (by omega)),hl4,hk4⟩⟩
     | exit id =>
      obtain⟨hr,hl3,hl4,hk4⟩:=fin (some (.exit id)) W3 hko
      exact⟨_,_,hr,.inr ⟨rfl,.exit id,hIx _ _ _ hp (below_putObj _ _ _ (by omega)),hl4,hk4⟩⟩
     | goto t=>exact hp.elim
     | panic ch=>exact hp.elim
     | outgrown=>exact hp.elim
   · rintro e W2 ⟨⟨v,rfl⟩,(⟨hi,hl,hk⟩ | ⟨c,hi,hl,hk⟩)⟩
     · exact⟨none,_,by have:=run_endLoop (P:=P) hl (by rw[hrec];simp);rw[hrec] at this;exact this,hdone _ _ (Nat.le_refl _) (hI _ _ _ hi (below_putObj _ _ _ (by omega))) ((World.putObj_heap_other (by omega)).trans hk)⟩
     · exact⟨some c,_,by have:=run_endLoop (P:=P) hl (by rw[hrec];simp);rw[hrec] at this;exact this,hstop _ c _ (Nat.le_refl _) (hIx _ _ _ hi (below_putObj _ _ _ (by omega))) ((World.putObj_heap_other (by omega)).trans hk)⟩
end
section
variable {P:Program} {α:Type} {cs:α→List Value} {sz:Nat}
theorem RowOf.flatN (hs:∀ x,(cs x).length=sz) (hsz:0<sz) {w:World} {B:Nat} {A:Option Addr} {l:List α} (h:RowOf cs sz w B A l) {q:Nat} {u:Value} (hq:(l.flatMap cs)[q]?=some u) :
  ∃ b off,A=some ⟨b,off,none⟩∧b<B∧w.cell? ⟨b,off+q,none⟩=some u:=by
 have hlen:q<l.length*sz:=by
  rw[← qaW hs l]
  rcases Nat.lt_or_ge q (l.flatMap cs).length with h' | h'
  · exact h'
  · rw[List.getElem?_eq_none h'] at hq;cases hq
 have hi:q/sz<l.length:=by rw[Nat.div_lt_iff_lt_mul hsz];exact hlen
 have hj:q%sz<sz:=Nat.mod_lt _ hsz
 obtain⟨x,hx⟩:=jx hi
 obtain⟨b,off,hA,hB,hc⟩:=h (Nat.lt_of_le_of_lt (Nat.zero_le _) hi)
 have hv:(cs x)[q%sz]?=some ((cs x)[q%sz]'(by rw[hs];exact hj)):=List.getElem?_eq_getElem _
 have hf:=qcV hs l (q/sz) x hx (q%sz) _ hv
 have he:q/sz*sz+q%sz=q:=by rw[Nat.mul_comm];exact Nat.div_add_mod q sz
 rw[he,hq] at hf
 have:=hc (q/sz) x hx (q%sz) _ hv
 rw[Nat.add_assoc,he,← hf] at this
 exact⟨b,off,hA,hB,this⟩
theorem flat_oneN (hone1:∀ y,∀ u∈cs y,u.oneCell'=true) (l:List α):∀ u∈l.flatMap cs,u.oneCell'=true:=by
 intro u hu
 obtain⟨x,_,hx⟩:=List.mem_flatMap.1 hu
 exact hone1 x u hx
end
theorem info24:(Tryz.prog.info? 24).map (fun i=>(i.zero,i.size,i.bytes))=some (some (.agg #[.int .i64 0,.int .i64 0,.int .i64 0,.int .i64 0,.string ⟨#[]⟩,.slice none 0 0]),6,72):=by kernel_rfl
theorem run_append_rows (A:Option Addr) (m c:Nat) (V:Value) (l l1:List RN) (B B1:Nat) (w:World) (hV:OwnN w B V l) (hm:m=l1.length) (hl:l.length+l1.length≤100000) (hr:RowOf RN.cells 6 w B1 A l1) (hB:B≤w.heap.size) (hnil:A=none→m=0) :
  ∃ v w1,(Builtin.append_ #[22,22] 22 #[V,.slice A m c]).run Tryz.prog w = .ok v w1∧OwnN w1 B v (l++l1)∧w.grownBy w1 V.ownBlock:=by
 obtain⟨i33,hi33,hz0,hz1,hz2⟩:=jg info24
 subst hm
 cases A with
 | none =>
  have h0:=hnil rfl
  obtain rfl:l1=[]:=List.eq_nil_of_length_eq_zero h0
  rcases hV.2 with⟨hv,h0'⟩ | ⟨g,cap,cur,hv,hg1,hg,hc,hcm,hs,ht⟩
  · subst hv
    refine⟨.slice none 0 0,w,?_,by rw[List.append_nil];exact hV,World.grownBy.refl _ _⟩
    simp[Builtin.append_,run_underlying Tryz.underlying22,sizeOf,typeInfo,zeroValue,hi33,hz0,Builtin.lenOf,run_firstCells_none]
  · subst hv
    refine⟨.slice (some ⟨g,0,none⟩) l.length cap,w,?_,by rw[List.append_nil];exact hV,World.grownBy.refl _ _⟩
    simp[Builtin.append_,run_underlying Tryz.underlying22,sizeOf,typeInfo,zeroValue,hi33,hz0,Builtin.lenOf,run_firstCells_none,hc,storeCells]
 | some a =>
  obtain⟨v,w1,h1,h2,h3,_⟩:=run_append_own_at (P:=Tryz.prog) w B 22 22 24 i33 _ 6 72 Tryz.underlying22 hi33 hz0 hz1 hz2 rfl (by decide) V l.length (l.flatMap RN.cells) hV a l1.length c (l1.flatMap RN.cells) (qaW RN.len l1)
   (fun j u hj=>by
    obtain⟨b,off,hA,_,hc⟩:=hr.flatN RN.len (by decide) hj
    injection hA with hA
    subst hA
    rw[Addr.add_lit]
    exact hc) (flat_oneN RN.one l1) (by unfold maxLen;omega) (by omega) hB
  refine⟨v,w1,h1,?_,h3⟩
  unfold OwnN Own
  rw[List.length_append,List.flatMap_append]
  exact h2
theorem wpList_append_run {P:Program} {ops:Array Oper} {rest:List Oper} {o:Oper} {a:Act} {Q:Exit→Act→World→Prop} (hgd:o.guard=none) (s x:Operand) (t:TypeId)
  (ho:o.op = .call { callee:=.builtin .append,args:=#[s,x],argTypes:=#[t,t] }) (W w1:World) (V X v:Value) (hs:a.eval s=V) (hx:a.eval x=X)
  (hrun:(Builtin.append_ #[t,t] o.type #[V,X]).run P W = .ok v w1) (h:wpList P ops Q rest (a.put o.dst v) w1):wpList P ops Q (o::rest) a W:=by
 refine wpList_plain hgd fun K hK=>?_
 unfold Oper.wp execOp
 simp only[ho,resolve,invoke,builtin,Sem.run_bind,Sem.run_pure,Result.andThen_ok,List.map_toArray,List.map_cons,List.map_nil,hs,hx,hrun]
 exact hK _ _ h
theorem wpList_append_rows {ops:Array Oper} {rest:List Oper} {o:Oper} {a:Act} {Q:Exit→Act→World→Prop} (hgd:o.guard=none) (s x:Operand)
  (ho:o.op = .call { callee:=.builtin .append,args:=#[s,x],argTypes:=#[22,22] }) (hty:o.type=22) (W:World) (B B1:Nat) (V:Value) (A:Option Addr) (m c:Nat) (l l1:List RN) (hs:a.eval s=V) (hx:a.eval x = .slice A m c)
  (hV:OwnN W B V l) (hm:m=l1.length) (hl:l.length+l1.length≤100000) (hr:RowOf RN.cells 6 W B1 A l1) (hB:B≤W.heap.size) (hnil:A=none→m=0)
  (h:∀ v' w',OwnN w' B v' (l++l1)→W.grownBy w' V.ownBlock→wpList Tryz.prog ops Q rest (a.put o.dst v') w'):wpList Tryz.prog ops Q (o::rest) a W:=by
 obtain⟨v,w1,hrun,h1,h2⟩:=run_append_rows A m c V l l1 B B1 W hV hm hl hr hB hnil
 exact wpList_append_run hgd s x 22 ho W w1 V _ v hs hx (by rw[hty];exact hrun) (h v w1 h1 h2)
theorem ReadL.app {w:World} {B:Nat} {L M:List Tree} {rs ss:List RN} (h:ReadL w B L rs) (k:ReadL w B M ss):ReadL w B (L++M) (rs++ss):=by
 refine⟨by simp[h.1,k.1],fun i y s hy hs=>?_⟩
 rcases Nat.lt_or_ge i L.length with hi | hi
 · rw[List.getElem?_append_left hi] at hy
   rw[List.getElem?_append_left (by rw[h.1];exact hi)] at hs
   exact h.2 i y s hy hs
 · rw[List.getElem?_append_right hi] at hy
   rw[List.getElem?_append_right (by rw[h.1];exact hi),h.1] at hs
   exact k.2 _ y s hy hs
theorem OwnN.one_ (w:World) (r:RN):OwnN (w.alloc (qd r)) w.heap.size (.slice (some ⟨w.heap.size,0,none⟩) 1 1) [r]:=by
 have:=World.ownsRow_lit (base:=w.heap.size) (e:=24) (size:=6) w #[.int .i64 r.kind,.int .i64 r.fr,.int .i64 r.en,.int .i64 r.at_,.string r.name,.slice r.A r.n r.cap] 1 (Nat.le_refl _) (by decide) rfl
 exact this
mutual
theorem path_cost (fr to_:Int):∀ t:Tree,(pathV fr to_ t).length≤qY t
 | .mk k f e a n l=>by
  have:=pathL_cost fr to_ l
  rw[pathV,qY]
  split
  · simp
  · rw[List.length_cons];omega
theorem pathL_cost (fr to_:Int):∀ l:List Tree,(pathL fr to_ l).length≤JA l
 | []=>by simp[pathL]
 | t::l=>by
  have h1:=path_cost fr to_ t
  have h2:=pathL_cost fr to_ l
  rw[pathL,JA]
  split<;>omega
end
theorem aPath (fr to_:Int):∀ (t:Tree) (r:RN) (w:World) (B:Nat),NodeM w B t r→B≤w.heap.size→qY t≤3000 →
  Calls Tryz.prog 20 #[r.val,.int .i64 fr,.int .i64 to_] w (NodesOut (pathV fr to_ t) B w):=by
 refine QI (fun k f en a n l ih r w B hm hB hc=>?_)
 obtain⟨A,cap,rfl,hk⟩:=hm.open2
 have hlen:=jP hc
 have HB:=Lib.hid ((Below.refl w.heap.size w).alloc (Nat.le_refl _) (qd ⟨k,f,en,a,qn n,A,l.length,cap⟩))
 have HK:=Lib.hid hk
 have HI:=Lib.hid (fun x hx rx W B h1 h2=>ih x hx rx W B h1 h2 (Jy hc hx))
 have HC:=Lib.hid hc
 have HM:=Lib.hid hm
 have HBB:=Lib.hid hB
 clear hm ih hc hk
 unfold RN.val
 by_cases h0:k=0
 · subst h0
   have HV:=Lib.hid (show pathV fr to_ (.mk 0 f en a n l)=[] by simp[pathV])
   go_enter Tryz.func20,Tryz.ntmps20
   go_wp2_with fail
   go_ret
   rw[HV.out];exact .nil_ _ _ _ HB.out
 have b0:(k == 0)=false:=beq_eq_false_iff_ne.2 h0
 by_cases h1:fr<f
 · have HV:=Lib.hid (show pathV fr to_ (.mk k f en a n l)=[] by rw[pathV,if_pos (by omega)])
   go_enter Tryz.func20,Tryz.ntmps20
   go_wp2_with fail
   go_ret
   rw[HV.out];exact .nil_ _ _ _ HB.out
 by_cases h2:to_<fr
 · have HV:=Lib.hid (show pathV fr to_ (.mk k f en a n l)=[] by rw[pathV,if_pos (by omega)])
   go_enter Tryz.func20,Tryz.ntmps20
   go_wp2_with fail
   go_ret
   rw[HV.out];exact .nil_ _ _ _ HB.out
 by_cases h3:en<to_
 · have HV:=Lib.hid (show pathV fr to_ (.mk k f en a n l)=[] by rw[pathV,if_pos (by omega)])
   go_enter Tryz.func20,Tryz.ntmps20
   go_wp2_with fail
   go_ret
   rw[HV.out];exact .nil_ _ _ _ HB.out
 have HV:=Lib.hid (show pathV fr to_ (.mk k f en a n l) = .mk k f en a n l::pathL fr to_ l by rw[pathV,if_neg (by omega)])
 go_enter Tryz.func20,Tryz.ntmps20
 go_wp2_with fail
 go_loopw [33] (fun i wr=>∃ j:Nat,j≤l.length∧i = .int .i64 j∧pathL fr to_ l=pathL fr to_ (l.drop j)∧wr.heap[w.heap.size]?=some (qd ⟨k,f,en,a,qn n,A,l.length,cap⟩)∧Below w.heap.size w wr) (fun i _=>l.length-(intOf i).toNat)
 case atStart=>exact⟨0,Nat.zero_le _,rfl,rfl,heap_alloc_new _ _,HB.out⟩
 case round =>
  obtain⟨j,hj,rfl,hv,hbx,hb⟩:=hrel
  have HB1:=Lib.hid hb
  have HV1:=Lib.hid hv
  have HBX:=Lib.hid hbx
  obtain⟨e0,e1,e2,e3,e4,e5,ez,el⟩:=qD hbx
  have hsz:=hb.size
  clear hb hv hbx
  by_cases hlt:j<l.length
  · obtain⟨x,hx⟩:∃ x,l[j]?=some x:=⟨_,List.getElem?_eq_getElem hlt⟩
    obtain⟨b,off,rx,rfl,hbb,hmx,c0,c1,c2,c3,c4,c5⟩:=(HK.out.later HB1.out HBB.out).at hx
    have hb1:b<wr.heap.size:=by omega
    have HX:=Lib.hid (show pathL fr to_ l=if (pathV fr to_ x).isEmpty then pathL fr to_ (l.drop (j+1)) else pathV fr to_ x by rw[HV1.out,jk hx,pathL])
    have HXC:=Lib.hid (Jy HC.out (List.mem_of_getElem? hx))
    have HCL:=Lib.hid (HI.out x (List.mem_of_getElem? hx) rx (wr.alloc (qd rx)) B (hmx.alloc (by omega) _) (by rw[World.size_alloc];omega))
    unfold RN.val at HCL
    clear hmx hx
    cases hq:(pathV fr to_ x).isEmpty with
    | true =>
     have hl0:(pathV fr to_ x).length=0:=by
      have:=List.isEmpty_iff.1 hq;rw[this];rfl
     rw[hq] at HX
     clear hq
     go_wp2_with (first | (go_at_call 20;refine HCL.out.mono ?_;rintro e w2 ⟨⟨A2,cap2,rs2,rfl,hrow2,hrl2,hn2⟩,hb2⟩;rw[hl0];have HB2:=Lib.hid (And.intro (qg (qb HBX.out) hb2) (qa (HB1.out.alloc HB1.out.size _) hb2));clear hb2 hn2 hrow2 hrl2))
     go_roundw
     case rel=>exact⟨j+1,by omega,by go_num,by rw[HX.out];rfl,HB2.out.1,HB2.out.2⟩
     case measure=>simp only[intOf];omega
    | false =>
     have hl0:∃ m,(pathV fr to_ x).length=m∧0<m∧m≤3000:=⟨_,rfl,by
      cases hp:pathV fr to_ x with
      | nil=>rw[hp] at hq;simp at hq
      | cons y ys=>simp,Nat.le_trans (path_cost fr to_ x) HXC.out⟩
     obtain⟨m,hl0,hm0,hm1⟩:=hl0
     rw[hq] at HX
     clear hq
     go_wp2_with (first | (go_at_call 20;refine HCL.out.mono ?_;rintro e w2 ⟨⟨A2,cap2,rs2,rfl,hrow2,hrl2,hn2⟩,hb2⟩;rw[hl0];have HB2:=Lib.hid (And.intro (qg (qb HBX.out) hb2) (qa (HB1.out.alloc HB1.out.size _) hb2));have HR2:=Lib.hid (And.intro hrow2 (And.intro hrl2 hn2));obtain⟨g0,g1,g2,g3,g4,g5,gz,gl⟩:=qD HB2.out.1;clear hb2 hn2 hrow2 hrl2) | (at_builtin;go_must (refine wpList_append_rows rfl _ _ rfl rfl (w2.alloc (qd ⟨k,f,en,a,qn n,some ⟨b,off,none⟩,l.length,cap⟩)) w2.heap.size w2.heap.size (.slice (some ⟨w2.heap.size,0,none⟩) 1 1) A2 m cap2 [⟨k,f,en,a,qn n,some ⟨b,off,none⟩,l.length,cap⟩] rs2 (by rfl) (by rfl) (OwnN.one_ _ _) (by rw[HR2.out.2.1.1,hl0]) (by rw[HR2.out.2.1.1,hl0];simp;omega) (HR2.out.1.alloc (Nat.le_refl _) _) (by rw[World.size_alloc];omega) (fun hA=>by rw[← hl0];exact HR2.out.2.2 hA) ?_);intro v3 w3 ho3 hg3))
     go_ret
     have HVX:pathV fr to_ (.mk k f en a n l) = .mk k f en a n l::pathV fr to_ x:=by rw[HV.out,HX.out];rfl
     rw[HVX]
     have hbw:Below w.heap.size w (wr.alloc (qd rx)):=HB1.out.alloc HB1.out.size _
     exact .own ho3 (.cons HM.out (HR2.out.2.1.back (B':=w.heap.size) hbw HBB.out)) (qI ((HB2.out.2.alloc HB2.out.2.size _)) ((OwnN.one_ w2 _).mono HB2.out.2.size) (by rw[World.size_alloc];omega) hg3)
  · have HV2:=Lib.hid (show pathV fr to_ (.mk k f en a n l)=[.mk k f en a n l] by rw[HV.out,HV1.out,List.drop_of_length_le (by omega)];rfl)
    go_wp2_with fail
    go_ret
    rw[HV2.out]
    exact .own (OwnN.one_ wr ⟨k,f,en,a,qn n,A,l.length,cap⟩) (.cons HM.out .nil_) (HB1.out.alloc HB1.out.size _)
theorem eachL_snoc:∀ (l:List Tree) (x:Tree),eachL (l++[x])=eachL l++eachV x
 | [],x=>by simp[eachL]
 | t::l,x=>by rw[List.cons_append,eachL,eachL_snoc l x,eachL,List.append_assoc]
theorem tight_no {size k f en a:Int} {n:BL} {l:List Tree} (h:¬ (0≤f∧f≤a∧a≤en∧en≤size)):tightV size (.mk k f en a n l)=false:=by
 show(decide (0≤f)&&decide (f≤a)&&decide (a≤en)&&decide (en≤size)&&tightL en f l)=_
 rw[Bool.eq_false_iff]
 intro hh
 simp only[Bool.and_eq_true,decide_eq_true_eq] at hh
 omega
theorem tight_yes {size k f en a:Int} {n:BL} {l:List Tree} (h:0≤f∧f≤a∧a≤en∧en≤size):tightV size (.mk k f en a n l)=tightL en f l:=by
 show(decide (0≤f)&&decide (f≤a)&&decide (a≤en)&&decide (en≤size)&&tightL en f l)=_
 rw[decide_eq_true h.1,decide_eq_true h.2.1,decide_eq_true h.2.2.1,decide_eq_true h.2.2.2]
 rfl
theorem aTight (size:Int) (t:Tree) (r:RN) (w:World) (hm:NodeM w w.heap.size t r) (hc:qY t≤3000) :
  Calls Tryz.prog 52 #[r.val,.int .i64 size] w fun e w'=>e = .returned (.bool (tightV size t))∧Below w.heap.size w w':=by
 obtain⟨k,f,en,a,n,l⟩:=t
 obtain⟨A,cap,rfl,hk⟩:=hm.open2
 have hlen:=jP hc
 have HB:=Lib.hid ((Below.refl w.heap.size w).alloc (Nat.le_refl _) (qd ⟨k,f,en,a,qn n,A,l.length,cap⟩))
 have HK:=Lib.hid hk
 clear hm hc hk
 unfold RN.val
 by_cases h0:f<0
 · have HV:=Lib.hid (tight_no (size:=size) (k:=k) (f:=f) (en:=en) (a:=a) (n:=n) (l:=l) (by omega))
   go_enter Tryz.func52,Tryz.ntmps52
   go_wp2_with fail
   go_ret
   exact⟨qi HV.out.symm,HB.out⟩
 by_cases h1:a<f
 · have HV:=Lib.hid (tight_no (size:=size) (k:=k) (f:=f) (en:=en) (a:=a) (n:=n) (l:=l) (by omega))
   go_enter Tryz.func52,Tryz.ntmps52
   go_wp2_with fail
   go_ret
   exact⟨qi HV.out.symm,HB.out⟩
 by_cases h2:en<a
 · have HV:=Lib.hid (tight_no (size:=size) (k:=k) (f:=f) (en:=en) (a:=a) (n:=n) (l:=l) (by omega))
   go_enter Tryz.func52,Tryz.ntmps52
   go_wp2_with fail
   go_ret
   exact⟨qi HV.out.symm,HB.out⟩
 by_cases h3:size<en
 · have HV:=Lib.hid (tight_no (size:=size) (k:=k) (f:=f) (en:=en) (a:=a) (n:=n) (l:=l) (by omega))
   go_enter Tryz.func52,Tryz.ntmps52
   go_wp2_with fail
   go_ret
   exact⟨qi HV.out.symm,HB.out⟩
 have HV:=Lib.hid (tight_yes (size:=size) (k:=k) (f:=f) (en:=en) (a:=a) (n:=n) (l:=l) (by omega))
 go_enter Tryz.func52,Tryz.ntmps52
 go_wp2_with fail
 go_loopw [5,36] (fun m i wr=>∃ (j:Nat) (z:Int),j≤l.length∧i = .int .i64 j∧m = .int .i64 z∧tightL en f l=tightL en z (l.drop j)∧wr.heap[w.heap.size]?=some (qd ⟨k,f,en,a,qn n,A,l.length,cap⟩)∧Below w.heap.size w wr) (fun _ i _=>l.length-(intOf i).toNat)
 case atStart=>exact⟨0,f,Nat.zero_le _,rfl,rfl,rfl,heap_alloc_new _ _,HB.out⟩
 case round =>
  obtain⟨j,z,hj,rfl,rfl,hv,hbx,hb⟩:=hrel
  have HB1:=Lib.hid hb
  have HV1:=Lib.hid hv
  have HBX:=Lib.hid hbx
  obtain⟨e0,e1,e2,e3,e4,e5,ez,el⟩:=qD hbx
  have hsz:=hb.size
  clear hb hv hbx
  by_cases hlt:j<l.length
  · obtain⟨x,hx⟩:∃ x,l[j]?=some x:=⟨_,List.getElem?_eq_getElem hlt⟩
    obtain⟨b,off,rx,rfl,hbb,hmx,c0,c1,c2,c3,c4,c5⟩:=(HK.out.later HB1.out (Nat.le_refl _)).at hx
    have hb1:b<wr.heap.size:=by omega
    have HX:=Lib.hid (show tightL en f l=if rx.kind=0 then tightL en z (l.drop (j+1)) else decide (z≤rx.fr)&&decide (rx.en≤en)&&tightL en (max z rx.en) (l.drop (j+1)) by
     rw[HV1.out,jk hx,tightL,hmx.kind,hmx.fr,hmx.en])
    have HBX2:=Lib.hid (qb (o':=qd rx) HBX.out)
    have HB2:=Lib.hid (HB1.out.alloc HB1.out.size (qd rx))
    clear hmx hx
    obtain⟨xk,xf,xe,xa,xn,xA,xc,xp⟩:=rx
    simp only at c0 c1 c2 c3 c4 c5 HX
    by_cases k0:xk=0
    · rw[if_pos k0] at HX
      subst k0
      go_wp2_with fail
      go_roundw
      case rel=>exact⟨j+1,z,by omega,by go_num,rfl,HX.out,HBX2.out,HB2.out⟩
      case measure=>simp only[intOf];omega
    · rw[if_neg k0] at HX
      have b0:(xk == 0)=false:=beq_eq_false_iff_ne.2 k0
      by_cases q1:xf<z
      · have HF:=Lib.hid (show tightV size (.mk k f en a n l)=false by rw[HV.out,HX.out,decide_eq_false (by omega)];simp)
        go_wp2_with fail
        go_ret
        exact⟨qi HF.out.symm,HB2.out⟩
      by_cases q2:en<xe
      · have HF:=Lib.hid (show tightV size (.mk k f en a n l)=false by rw[HV.out,HX.out,decide_eq_false (p:=xe≤en) (by omega)];simp)
        go_wp2_with fail
        go_ret
        exact⟨qi HF.out.symm,HB2.out⟩
      have HX2:=Lib.hid (show tightL en f l=tightL en (max z xe) (l.drop (j+1)) by rw[HX.out,decide_eq_true (by omega),decide_eq_true (by omega)];rfl)
      go_wp2_with fail
      go_roundw
      case rel=>exact⟨j+1,max z xe,by omega,by go_num,by go_num,HX2.out,HBX2.out,HB2.out⟩
      case measure=>simp only[intOf];omega
  · have HF:=Lib.hid (show tightV size (.mk k f en a n l)=true by rw[HV.out,HV1.out,List.drop_of_length_le (by omega)];rfl)
    go_wp2_with fail
    go_ret
    exact⟨qi HF.out.symm,HB1.out⟩
def PFx (X:Nat→List RN) (j:Nat):List RN:=(List.range j).flatMap X
theorem PFx_succ (X:Nat→List RN) (j:Nat):PFx X (j+1)=PFx X j++X j:=by
 unfold PFx;rw[List.range_succ,List.flatMap_append];simp
theorem PFx_at (X:Nat→List RN) {j m:Nat} {y:RN} (h:(X j)[m]?=some y):∀ n,j<n→(PFx X n)[(PFx X j).length+m]?=some y:=by
 intro n
 induction n with
 | zero=>intro h;omega
 | succ n ih =>
  intro hj
  rw[PFx_succ]
  have hm:m<(X j).length:=(List.getElem?_eq_some_iff.1 h).1
  by_cases hn:j=n
  · subst hn
    rw[List.getElem?_append_right (by omega),Nat.add_sub_cancel_left];exact h
  · have h1:=ih (by omega)
    have:=(List.getElem?_eq_some_iff.1 h1).1
    rw[List.getElem?_append_left this];exact h1
theorem PFx_read {w:World} {B:Nat} {l:List Tree} {X:Nat→List RN} (h:∀ i x,l[i]?=some x→ReadL w B (eachV x) (X i)):∀ j,j≤l.length→ReadL w B (eachL (l.take j)) (PFx X j):=by
 intro j
 induction j with
 | zero=>intro _;exact .nil_
 | succ j ih =>
  intro hj
  obtain⟨x,hx⟩:∃ x,l[j]?=some x:=⟨_,List.getElem?_eq_getElem (by omega)⟩
  rw[Jo hx,eachL_snoc,PFx_succ]
  exact(ih (by omega)).app (h j x hx)
def EachC (w:World) (B:Nat) (r:RN) (rs:List RN):Prop :=
 ∀ (lp:Nat) (J:Nat→World→Prop) (Jx:World→Prop) (M:Nat→Prop) (W:World) (s:Nat),(∀ k W1,J k W1→∀ b,M b→b<W1.heap.size)→Stays J→StaysX Jx →
  (∀ k W1,J k W1→(∀ p:Addr,p.block<B→W1.cell? p=w.cell? p)∧B≤W1.heap.size) →
  (∀ k W1,J k W1→s≤k→∀ y,rs[k-s]?=some y→YieldAt Fence.wide 0 Tryz.prog lp #[y.val] W1 fun e W'=>(e = .returned (.bool true)∧J (k+1) W'∧Kept M W1 W')∨(e = .returned (.bool false)∧Jx W'))→J s W →
  Calls Tryz.prog 49 #[r.val,.func (.yield lp) #[] #[]] W fun e W'=>(e = .returned (.bool true)∧J (s+rs.length) W')∨(e = .returned (.bool false)∧Jx W')
theorem aeach (w:World) (B:Nat):∀ (t:Tree) (r:RN),NodeM w B t r→qY t≤3000→∃ rs,ReadL w B (eachV t) rs∧EachC w B r rs:=by
 refine QI (fun k f en a n l ih r hm hc=>?_)
 obtain⟨A,cap,ks,rfl,hr,hl,hk⟩:=hm.open_
 have hlen:=jP hc
 by_cases h0:k=0
 · subst h0
   refine⟨[],by rw[show eachV (.mk 0 f en a n l)=[] by simp[eachV]];exact .nil_,?_⟩
   intro lp J Jx M W s hM hJ hJx hK hY h0
   unfold RN.val
   have HJ:=Lib.hid (hJ _ _ (W.alloc (qd ⟨0,f,en,a,qn n,A,l.length,cap⟩)) h0 ((Below.refl _ _).alloc (Nat.le_refl _) _))
   clear hM hJx hK hY h0 hJ hm hr hk ih
   go_enter Tryz.func49,Tryz.ntmps49
   go_wp2_with fail
   go_ret
   exact .inl ⟨rfl,HJ.out⟩
 have b0:(k == 0)=false:=beq_eq_false_iff_ne.2 h0
 have hX:∀ i,i<l.length→∃ rs:List RN,∀ x rx,l[i]?=some x→ks[i]?=some rx→ReadL w B (eachV x) rs∧EachC w B rx rs:=fun i hi=>by
  obtain⟨x,hx⟩:∃ x,l[i]?=some x:=⟨_,List.getElem?_eq_getElem hi⟩
  obtain⟨rx,hrx⟩:∃ rx,ks[i]?=some rx:=⟨_,List.getElem?_eq_getElem (by omega)⟩
  obtain⟨rs,h1,h2⟩:=ih x (List.mem_of_getElem? hx) rx (hk i x rx hx hrx) (Jy hc (List.mem_of_getElem? hx))
  refine⟨rs,fun x' rx' hx' hrx'=>?_⟩
  rw[hx] at hx';rw[hrx] at hrx'
  cases hx';cases hrx'
  exact⟨h1,h2⟩
 obtain⟨X,hX⟩:=Go.Deep.choose_lt hX
 have hread:∀ i x,l[i]?=some x→ReadL w B (eachV x) (X i):=fun i x hx=>by
  have hi:=(List.getElem?_eq_some_iff.1 hx).1
  exact(hX i hi x _ hx (List.getElem?_eq_getElem (by omega))).1
 have hall:=PFx_read hread l.length (Nat.le_refl _)
 rw[List.take_length] at hall
 refine⟨⟨k,f,en,a,qn n,A,l.length,cap⟩::PFx X l.length,by rw[eachV,if_neg h0];exact .cons hm hall,?_⟩
 intro lp J Jx M W s hM hJ hJx hK hY hs
 have HM:=Lib.hid hM
 have HJ:=Lib.hid hJ
 have HJX:=Lib.hid hJx
 have HK:=Lib.hid hK
 have HY:=Lib.hid hY
 have HX:=Lib.hid hX
 have HS:=Lib.hid hs
 have HR:=Lib.hid (And.intro hr (And.intro hl hk))
 have hj0:=hJ _ _ (W.alloc (.cells #[.int .i64 k,.int .i64 f,.int .i64 en,.int .i64 a,.string (qn n),.slice A l.length cap] 24)) hs ((Below.refl _ _).alloc (Nat.le_refl _) _)
 obtain⟨f0,t0,a0,bb0,hy0,hR0⟩:=hY s _ hj0 (Nat.le_refl _) ⟨k,f,en,a,qn n,A,l.length,cap⟩ (by rw[Nat.sub_self];rfl)
 have HR0:=Lib.hid hR0
 unfold RN.val at hy0
 clear hM hJ hJx hK hY hX hr hl hk hm ih hread hall hs hj0 hR0
 unfold RN.val
 refine(callsIn_wide (n:=0)).1 (callsIn_of_wp Tryz.func49 rfl trivial ?_)
 simp only[Tryz.ntmps49,List.size_toArray,List.length_cons,List.length_nil,Nat.reduceAdd,Nat.reduceSub,Array.replicate_succ,Array.replicate_zero,List.push_toArray,List.append_toArray,List.nil_append,List.cons_append]
 gi_wp2_with fail
 refine⟨rfl,HR0.out.mono ?_⟩
 have hMx:¬ M W.heap.size:=fun h=>by have:=HM.out _ _ HS.out _ h;omega
 have heach:eachV (.mk k f en a n l) = .mk k f en a n l::eachL l:=by rw[eachV,if_neg h0]
 rintro e W3 (⟨rfl,hj3,hk3⟩ | ⟨rfl,hj3⟩)
 · have hbx:W3.heap[W.heap.size]?=some (qd ⟨k,f,en,a,qn n,A,l.length,cap⟩):=(hk3.2 W.heap.size (by rw[World.size_alloc];omega) hMx).trans (heap_alloc_new _ _)
   obtain⟨e0,e1,e2,e3,e4,e5,ez,el⟩:=qD hbx
   have HJ3:=Lib.hid hj3
   clear hy0 hk3 hj3 hbx
   gi_wp2_with fail
   gi_loopw [17] (fun i wr=>∃ j:Nat,j≤l.length∧i = .int .i64 j∧J (s+1+(PFx X j).length) wr) (fun i _=>l.length-(intOf i).toNat)
   case atStart=>exact⟨0,Nat.zero_le _,rfl,HJ3.out⟩
   case round =>
    obtain⟨j,hj,rfl,hJj⟩:=hrel
    have HJJ:=Lib.hid hJj
    obtain⟨q1,q2⟩:=HK.out _ _ hJj
    clear hJj
    by_cases hlt:j<l.length
    · obtain⟨x,hx⟩:∃ x,l[j]?=some x:=⟨_,List.getElem?_eq_getElem hlt⟩
      obtain⟨b,off,rx,rfl,hbb,hrx,hmx,c0,c1,c2,c3,c4,c5⟩:=qfY (w:=wr) (HR.out.1.keep fun p hp=>q1 p hp) HR.out.2.1 (fun i y ry hy hry=>(HR.out.2.2 i y ry hy hry).keep fun p hp=>q1 p hp) hx
      have hb1:b<wr.heap.size:=by omega
      clear q1
      obtain⟨_,hEC⟩:=HX.out j hlt x rx hx hrx
      have HE:=Lib.hid (hEC lp J Jx M (wr.alloc (.cells #[.int .i64 rx.kind,.int .i64 rx.fr,.int .i64 rx.en,.int .i64 rx.at_,.string rx.name,.slice rx.A rx.n rx.cap] 24)) (s+1+(PFx X j).length)
       HM.out HJ.out HJX.out (fun k W1 h=>HK.out k W1 h)
       (fun k W1 h hk y hy=>HY.out k W1 h (by omega) y (by
        obtain⟨m,rfl⟩:∃ m,k=s+1+(PFx X j).length+m:=⟨k-(s+1+(PFx X j).length),by omega⟩
        rw[show s+1+(PFx X j).length+m-s=(PFx X j).length+m+1 by omega,List.getElem?_cons_succ]
        exact PFx_at X (by rwa [Nat.add_sub_cancel_left] at hy) _ hlt))
       (HJ.out _ _ _ HJJ.out ((Below.refl _ _).alloc (Nat.le_refl _) _)))
      unfold RN.val at HE
      clear hmx hrx hEC hx
      gi_wp2_with (refine⟨trivial,rfl,?_⟩;gi_at_call 49;refine(callsIn_wide.2 HE.out).mono ?_)
      rintro e W5 (⟨rfl,hj5⟩ | ⟨rfl,hj5⟩)
      · have HJ5:=Lib.hid hj5
        clear hj5
        gi_wp2_with fail
        go_roundw
        case rel=>exact⟨j+1,by omega,by go_num,by rw[PFx_succ,List.length_append,← Nat.add_assoc];exact HJ5.out⟩
        case measure=>simp only[intOf];omega
      · have HJ5:=Lib.hid hj5
        clear hj5
        gi_wp2_with fail
        go_ret
        exact .inr ⟨rfl,HJ5.out⟩
    · have hjl:j=l.length:=by omega
      clear q1
      have HJ6:=Lib.hid (show J (s+(PFx X l.length).length+1) wr by rw[← hjl,show s+(PFx X j).length+1=s+1+(PFx X j).length by omega];exact HJJ.out)
      clear hjl
      gi_wp2_with fail
      go_ret
      exact .inl ⟨rfl,HJ6.out⟩
 · have HJ3:=Lib.hid hj3
   clear hy0 hj3
   gi_wp2_with fail
   go_ret
   exact .inr ⟨rfl,HJ3.out⟩
section
attribute [local go_sem] Oper.semAt_some
def r0N:RN:=⟨0,0,0,0,⟨#[]⟩,none,0,0⟩
def elN (rs:List RN) (k:Nat):RN:=rs[k]?.getD r0N
theorem elN_at {rs:List RN} {k:Nat} {y:RN} (h:rs[k]?=some y):elN rs k=y:=by unfold elN;rw[h];rfl
def KKe (w:World) (B:Nat) (bx:Nat) (r:RN) (W:World):Prop:=W.heap[bx]?=some (qd r)∧(∀ p:Addr,p.block<B→W.cell? p=w.cell? p)∧B≤W.heap.size
theorem each_hands {w:World} {B:Nat} {r:RN} {rs:List RN} (hE:EachC w B r rs) (bx:Nat):Hands2 Tryz.prog 48 #[.pointer (some ⟨bx,0,none⟩)] rs.length (fun k=>(elN rs k).val) (KKe w B bx r):=by
 intro lp J Jx M W hM hJ hJx hK hY h0
 obtain⟨k1,k2,k3⟩:=(hK 0 W h0).1
 have HC:=Lib.hid (hE lp J Jx M W 0 (fun k W1 h b hb=>by have:=hM b hb;have:=(hK k W1 h).2;omega) hJ hJx (fun k W1 h=>(hK k W1 h).1.2)
  (fun k W1 h _ y hy=>by
   rw[Nat.sub_zero] at hy
   have:=hY k W1 h (List.getElem?_eq_some_iff.1 hy).1
   have e:=elN_at hy
   change YieldAt Fence.wide 0 Tryz.prog lp #[(elN rs k).val] W1 _ at this
   rw[e] at this
   exact this) h0)
 obtain⟨e0,e1,e2,e3,e4,e5,ez,el⟩:=qD k1
 unfold RN.val at HC
 clear hM hJ hJx hK hY h0 k1 k2 k3
 go_enter Tryz.func48,Tryz.ntmps48
 go_wp2_with (go_at_call 49;refine HC.out.mono ?_)
 rintro e W5 (⟨rfl,hj5⟩ | ⟨rfl,hj5⟩)
 · have HJ5:=Lib.hid hj5
   clear hj5
   go_wp2_with fail
   go_end0
   exact⟨⟨_,rfl⟩,.inl (by have:=HJ5.out;rwa [Nat.zero_add] at this)⟩
 · have HJ5:=Lib.hid hj5
   clear hj5
   go_wp2_with fail
   go_end0
   exact⟨⟨_,rfl⟩,.inr HJ5.out⟩
theorem aEach (r:RN) (w:World):Calls Tryz.prog 23 #[r.val] w fun e w'=>e = .returned (.func (.func 48) #[] #[.pointer (some ⟨w.heap.size,0,none⟩)])∧w'=w.alloc (qd r):=by
 unfold RN.val
 go_enter Tryz.func23,Tryz.ntmps23
 go_wp2_with fail
 go_ret
 exact⟨rfl,rfl⟩
mutual
theorem each_mem_cost:∀ (t:Tree) (x:Tree),x∈eachV t→qY x≤qY t
 | .mk k f e a n l=>fun x hx=>by
  rw[eachV] at hx
  split at hx
  · simp at hx
  · rcases List.mem_cons.1 hx with rfl | hx
    · exact Nat.le_refl _
    · have:=eachL_mem_cost l x hx
      rw[qY];omega
theorem eachL_mem_cost:∀ (l:List Tree) (x:Tree),x∈eachL l→qY x≤JA l
 | []=>fun x hx=>by simp[eachL] at hx
 | t::l=>fun x hx=>by
  rw[eachL] at hx
  rw[JA]
  rcases List.mem_append.1 hx with hx | hx
  · have:=each_mem_cost t x hx;omega
  · have:=eachL_mem_cost l x hx;omega
end
theorem load_bool {w:World} {b:Nat} {v:Value} (h:w.heap[b]?=some (.cells #[v] 4 (0,0))):(loadVar 4 ⟨b,0,none⟩).run Tryz.prog w = .ok v w:=by
 have c0:=(jf h).1
 have ha:=Tryz.isAgg4 w
 simp only[loadVar,Sem.run_bind,ha,Result.andThen_ok]
 show(Sem.run Tryz.prog (load ⟨b,0,none⟩) w)=_
 rw[run_load,c0]
theorem end_cell {fn:Func} {p:Tmp} (hres:fn.results=#[.cell p 4]) {tmps:Array Value} {b D:Nat} {v:Value} {w:World} {R:Ending→World→Prop} (hp:tmps.getD p undef = .pointer (some ⟨b,0,none⟩))
  (hb:w.heap[b]?=some (.cells #[v] 4 (0,0))) (hd:w.heap[D]?=some (.deferred (some []))) (hR:R (.returned v) (w.putObj D (.deferred none))) :
  bodyPostM Fence.wide 0 Tryz.prog fn R .ret { tmps:=tmps,defers:=[{ target:=.collected D,args:=#[] }] } w:=by
 have hne:b≠D:=fun e=>by rw[e,hd] at hb;cases hb
 refine⟨by simp,.inl ⟨_,_,rfl,run_takeDeferred hd,?_⟩⟩
 refine⟨v,?_,hR⟩
 have h1:(w.putObj D (.deferred none)).heap[b]?=some (.cells #[v] 4 (0,0)):=(World.putObj_heap_other hne).trans hb
 have hp':tmps[p]?.getD undef = .pointer (some ⟨b,0,none⟩):=by rw[← hp];simp
 simp only[results,hres]
 simp[Sem.run_bind,Result.andThen,hp',asAddr,load_bool h1]
theorem KidsM_of {w W:World} {B:Nat} {t:Tree} {r:RN} (h:NodeM w B t r) (hk:∀ p:Addr,p.block<B→W.cell? p=w.cell? p) (hB:B≤W.heap.size):NodeM W W.heap.size t r:=(h.keep hk).more hB
theorem aPlaced (size:Int) (t:Tree) (r:RN) (w:World) (hm:NodeM w w.heap.size t r) (hc:qY t≤3000) :
  Calls Tryz.prog 26 #[r.val,.int .i64 size] w fun e w'=>e = .returned (.bool (placedV size t))∧Below w.heap.size w w':=by
 obtain⟨rs,hrl,hE⟩:=aeach w w.heap.size t r hm hc
 have hEA:=aEach r
 unfold RN.val at hEA ⊢
 refine(callsIn_wide (n:=0)).1 (callsIn_of_wp_marks Tryz.func26 rfl trivial ?_)
 simp only[Tryz.ntmps26,List.size_toArray,List.length_cons,List.length_nil,Nat.reduceAdd,Nat.reduceSub,Array.replicate_succ,Array.replicate_zero,List.push_toArray,List.append_toArray,List.nil_append,List.cons_append]
 gi_wp2_with (refine⟨trivial,rfl,?_⟩;first | (gi_at_call 23;refine(callsIn_wide.2 (hEA _)).mono ?_;rintro e w1 ⟨rfl,rfl⟩))
 apply wide_range3 (gf:=48) (lb:=#[.pointer (some ⟨w.heap.size+1+1+1,0,none⟩)]) rfl (Go.Proofs.enters_of Tryz.func48 (by kernel_rfl) rfl)
  (each_hands hE (w.heap.size+1+1+1))
  (fun k W=>(∀ i x,i<k→(eachV t)[i]?=some x→tightV size x=true)∧KKe w w.heap.size (w.heap.size+1+1+1) r W∧W.heap[w.heap.size+1]?=some (.cells #[.int .i64 size] 3 (0,0))∧W.heap[w.heap.size+1+1]?=some (.cells #[.bool false] 4 (0,0))∧Below w.heap.size w W)
  (fun c W=>c = .ret∧placedV size t=false∧W.heap[w.heap.size+1+1]?=some (.cells #[.bool false] 4 (0,0))∧Below w.heap.size w W)
  (fun b=>b=w.heap.size+1+1)
  (a₁:=fun k b=>{ tmps:=#[.agg #[.int .i64 r.kind,.int .i64 r.fr,.int .i64 r.en,.int .i64 r.at_,.string r.name,.slice r.A r.n r.cap],.int .i64 size,.pointer (some ⟨w.heap.size,0,none⟩),.pointer (some ⟨w.heap.size+1,0,none⟩),.pointer (some ⟨w.heap.size+1+1,0,none⟩),.pointer (some ⟨b,0,none⟩),
   .agg #[.int .i64 r.kind,.int .i64 r.fr,.int .i64 r.en,.int .i64 r.at_,.string r.name,.slice r.A r.n r.cap],.func (.func 48) #[] #[.pointer (some ⟨w.heap.size+1+1+1,0,none⟩)],(elN rs k).val,undef,undef,undef,undef],defers:=[] })
  (ob:=fun k=>qd (elN rs k))
 case hMc=>rintro b rfl;simp
 case hI =>
  rintro k W W' ⟨h1,⟨h2,h3,h4⟩,h5,h6,h7⟩ hb
  simp only[World.size_alloc] at hb
  exact⟨h1,⟨(hb.block _ (by omega)).trans h2,fun p hp=>(hb.cell (by omega)).trans (h3 p hp),Nat.le_trans h4 hb.size⟩,(hb.block _ (by omega)).trans h5,(hb.block _ (by omega)).trans h6,h7.trans (hb.mono (by omega))⟩
 case hIx =>
  rintro c W W' ⟨h1,h2,h3,h4⟩ hb
  simp only[World.size_alloc] at hb
  exact⟨h1,h2,(hb.block _ (by omega)).trans h3,h4.trans (hb.mono (by omega))⟩
 case hKK=>exact fun k W h=>h.2.1
 case hassign =>
  intro lp k W K hK
  simp only[RN.val] at hK ⊢
  gi_wp2
  exact hK
 case hbody =>
  rintro lp k b W ⟨h1,⟨h2,h3,h4⟩,h5,h6,h7⟩ hk hb hwb
  obtain⟨x,hx⟩:∃ x,(eachV t)[k]?=some x:=⟨_,List.getElem?_eq_getElem (by rw[← hrl.1];exact hk)⟩
  obtain⟨y,hy⟩:∃ y,rs[k]?=some y:=⟨_,List.getElem?_eq_getElem hk⟩
  have hm2:=KidsM_of (hrl.2 k x y hx hy) h3 h4
  have HT:=Lib.hid (aTight size x y W hm2 (Nat.le_trans (each_mem_cost t x (List.mem_of_getElem? hx)) hc))
  rw[elN_at hy] at hb ⊢
  unfold RN.val at HT ⊢
  obtain⟨e0,e1,e2,e3,e4,e5,ez,el⟩:=qD hb
  obtain⟨g0,gz,gl⟩:=jf h6
  obtain⟨f0,fz,fl⟩:=jf h5
  have H1:=Lib.hid h1
  have HKK:=Lib.hid (show KKe w w.heap.size (w.heap.size+1+1+1) r W from⟨h2,h3,h4⟩)
  have H5:=Lib.hid h5
  have H6:=Lib.hid h6
  have H7:=Lib.hid h7
  have HX:=Lib.hid hx
  clear h1 h2 h3 h4 h5 h6 h7 hm2 hb hx hy
  cases hq:tightV size x with
  | true =>
   rw[hq] at HT
   gi_wp2_with (refine⟨trivial,rfl,?_⟩;gi_at_call 52;refine(callsIn_wide.2 HT.out).mono ?_;rintro e w3 ⟨rfl,hb3⟩)
   refine⟨.of_below hb3,fun i z hi hz=>?_,⟨(hb3.block _ ?_).trans HKK.out.1,fun p hp=>(hb3.cell ?_).trans (HKK.out.2.1 p hp),Nat.le_trans HKK.out.2.2 hb3.size⟩,qg H5.out hb3,qg H6.out hb3,H7.out.trans (hb3.mono ?_)⟩
   · rcases Nat.lt_or_ge i k with h | h
     · exact H1.out i z h hz
     · obtain rfl:i=k:=by omega
       have:=HX.out
       rw[hz] at this;cases this
       exact hq
   · exact(Array.getElem?_eq_some_iff.1 HKK.out.1).1
   · have:=HKK.out.2.2;omega
   · exact HKK.out.2.2
  | false =>
   rw[hq] at HT
   have HV:=Lib.hid (show placedV size t=false by
    rw[Bool.eq_false_iff];intro ha
    have:=List.all_eq_true.1 ha x (List.mem_of_getElem? HX.out)
    rw[hq] at this;cases this)
   gi_wp2_with (refine⟨trivial,rfl,?_⟩;gi_at_call 52;refine(callsIn_wide.2 HT.out).mono ?_;rintro e w3 ⟨rfl,hb3⟩;obtain⟨q0,qz,ql⟩:=jf (qg H6.out hb3))
   exact⟨(Kept.of_below hb3).trans (Kept.setCell _ _ _ _ rfl),rfl,HV.out,qU (qg H6.out hb3),(H7.out.trans (hb3.mono HKK.out.2.2)).setCell (p:=⟨w.heap.size+1+1,0,none⟩) (by simp;omega) _⟩
 case hdone =>
  rintro D W hD ⟨h1,⟨h2,h3,h4⟩,h5,h6,h7⟩ hd
  obtain⟨g0,gz,gl⟩:=jf h6
  simp only[World.size_alloc] at hD
  have HV:=Lib.hid (show placedV size t=true from List.all_eq_true.2 fun x hx=>by
   obtain⟨i,hi,e⟩:=List.getElem_of_mem hx
   exact h1 i x (by rw[hrl.1];exact hi) (by rw[List.getElem?_eq_getElem hi,e]))
  have HD:=Lib.hid hd
  have H6:=Lib.hid h6
  have H7:=Lib.hid h7
  clear h1 h2 h3 h4 h5 h6 h7 hd hrl hE hEA hm
  gi_wp2
  have hne:D≠w.heap.size+1+1:=by omega
  refine end_cell rfl rfl (b:=w.heap.size+1+1) (qU H6.out) ((qu hne).trans HD.out) ?_
  exact⟨qi HV.out.symm,(H7.out.setCell (p:=⟨w.heap.size+1+1,0,none⟩) (by simp;omega) _).trans (below_putObj _ _ _ (by omega))⟩
 case hstop =>
  rintro D c W hD ⟨rfl,h1,h2,h3⟩ hd
  simp only[World.size_alloc] at hD
  have HV:=Lib.hid h1
  have HD:=Lib.hid hd
  have H6:=Lib.hid h2
  have H7:=Lib.hid h3
  clear h1 h2 h3 hd hrl hE hEA hm
  gi_wp2
  refine end_cell rfl rfl (b:=w.heap.size+1+1) H6.out HD.out ?_
  exact⟨qi HV.out.symm,H7.out.trans (below_putObj _ _ _ (by omega))⟩
 case h0 =>
  refine⟨fun i x h=>by omega,⟨?_,fun p hp=>?_,?_⟩,?_,?_,?_⟩
  · have:=heap_alloc_new (((w.alloc (qd r)).alloc (.cells #[.int .i64 size] 3)).alloc (.cells #[.bool false] 4)) (qd r)
    simp only[World.size_alloc] at this
    exact this
  · rw[World.cell?_alloc_lt _ _ _ (by simp;omega),World.cell?_alloc_lt _ _ _ (by simp;omega),World.cell?_alloc_lt _ _ _ (by simp;omega),World.cell?_alloc_lt _ _ _ hp]
  · simp;omega
  · refine qb (qb ?_)
    have:=heap_alloc_new (w.alloc (qd r)) (.cells #[.int .i64 size] 3)
    simp only[World.size_alloc] at this
    exact this
  · refine qb ?_
    have:=heap_alloc_new ((w.alloc (qd r)).alloc (.cells #[.int .i64 size] 3)) (.cells #[.bool false] 4)
    simp only[World.size_alloc] at this
    exact this
  · exact(((((Below.refl _ _).alloc (Nat.le_refl _) _).alloc (by simp) _).alloc (by simp;omega) _).alloc (by simp;omega) _)
end
theorem drop_len {L:BL} {k:Nat} {c:UInt8} {r:BL} (h:L.drop k=c::r):k+1+r.length=L.length∧L.drop (k+1)=r:=by
 constructor
 · have:=congrArg List.length h
   rw[List.length_drop,List.length_cons] at this
   omega
 · rw[← List.drop_drop,h];rfl
def quotF:Nat→BL→Nat→BL→Option (Option (BL×Nat))
 | 0,_,_,_=>none
 | f+1,L,i,b=>match L[i]? with
  | none=>some none
  | some c=>if c.toNat=34 then some (some (b,i+1)) else if c.toNat<32∨c.toNat=127 then some none else if c.toNat=92 then
    (match Ja (L.drop (i+1)) with
    | none=>some none
    | some (x,n)=>quotF f L (i+1+n) (b++[x]))
   else quotF f L (i+1) (b++[c])
theorem quotF_is:∀ (f:Nat) (L:BL) (i:Nat) (b:BL) (r:Option (BL×Nat)),quotF f L i b=some r→quotAt L i b=r
 | 0,_,_,_,_,h=>by cases h
 | f+1,L,i,b,r,h=>by
  unfold quotF at h
  by_cases hlt:i<L.length
  · rw[List.getElem?_eq_getElem hlt] at h
    rw[quotAt,dif_pos hlt]
    simp only at h
    split at h
    · rename_i q;rw[if_pos q];exact Option.some.inj h
    · rename_i q
      rw[if_neg q]
      split at h
      · rename_i q;rw[if_pos q];exact Option.some.inj h
      · rename_i q
        rw[if_neg q]
        split at h
        · rename_i q
          rw[if_pos q]
          cases he:Ja (L.drop (i+1)) with
          | none=>rw[he] at h;exact Option.some.inj h
          | some xn =>
           obtain⟨x,n⟩:=xn
           rw[he] at h
           exact quotF_is f L _ _ r h
        · rename_i q
          rw[if_neg q]
          exact quotF_is f L _ _ r h
  · rw[List.getElem?_eq_none (by omega)] at h
    rw[Qw (by omega)];exact Option.some.inj h
def takeF (eF:BL→Int) (f:Nat) (L:BL):Option ((Int×Nat×Nat)×List BL) :=
 if 0<qp L then
  some ((if resW.contains (L.take (qp L)) then (0,2,qp L) else if 40<qp L then (3,1,qp L) else if L.take (qp L)=[95] then (9,1,qp L) else (0,1,qp L)),[])
 else if 0<(Qm L).2 then
  (if (Qm L).1=3 then some ((qlS (L.take (Qm L).2),(Qm L).1,(Qm L).2),[]) else some ((eF (L.take (Qm L).2),(Qm L).1,(Qm L).2),[L.take (Qm L).2]))
 else match (match L with | []=>some none | c::_=>if c.toNat=34 then quotF f L 1 [] else some none) with
  | none=>none
  | some (some (v,n))=>some (((if 4096<v.length then 3 else 0),5,n),[])
  | some none=>some ((if L.head?=some 59 then (0,7,1) else if 0<jX L then (0,6,jX L) else (4,0,0)),[])
theorem takeF_is {eF eG:BL→Int} {f:Nat} {L:BL} {r:Int×Nat×Nat} {q:List BL} (h:takeF eG f L=some (r,q)) (hq:∀ x∈q,eF x=eG x):qs eF L=r:=by
 unfold takeF at h
 unfold qs
 split at h
 · rename_i h0;rw[if_pos h0];exact congrArg Prod.fst (Option.some.inj h)
 · rename_i h0
   rw[if_neg h0]
   split at h
   · rename_i h1
     rw[if_pos h1]
     split at h
     · rename_i h2;rw[if_pos h2];exact congrArg Prod.fst (Option.some.inj h)
     · rename_i h2
       rw[if_neg h2]
       have e1:=congrArg Prod.fst (Option.some.inj h)
       have e2:=congrArg Prod.snd (Option.some.inj h)
       simp only at e1 e2
       rw[← e1,hq _ (by rw[← e2];simp)]
   · rename_i h1
     rw[if_neg h1]
     have hv:∀ o,(match L with | []=>some none | c::_=>if c.toNat=34 then quotF f L 1 [] else some none)=some o→Qr L=o:=by
      intro o ho
      cases L with
      | nil=>exact Option.some.inj ho
      | cons c l =>
       unfold Qr
       simp only at ho ⊢
       split at ho
       · rename_i hc;rw[if_pos hc];exact quotF_is _ _ _ _ _ ho
       · rename_i hc;rw[if_neg hc];exact Option.some.inj ho
     split at h
     · cases h
     · rename_i v n ho
       rw[hv _ ho]
       exact congrArg Prod.fst (Option.some.inj h)
     · rename_i ho
       rw[hv _ ho]
       exact congrArg Prod.fst (Option.some.inj h)
def lexF (eF:BL→Int):Nat→BL→Nat→List Tk→Option Tk→Option (Except (Nat×Int) (List Tk)×List BL)
 | 0,_,_,_,_=>none
 | f+1,M,at_,acc,last=>match M with
  | []=>some (.ok (jC acc last),[])
  | c::r =>
   if qc2 c then lexF eF f r (at_+1) acc last
   else if c.toNat=10 then lexF eF f r (at_+1) (jC acc last) none
   else if c.toNat=47∧r.head?=some 47 then lexF eF f (r.drop (qaP r)) (at_+1+qaP r) acc last
   else match takeF eF f M with
    | none=>none
    | some ((e,k,n),q)=>if e=0∧0<n then
      (match lexF eF f (M.drop n) (at_+n) (acc++[⟨k,M.take n,at_,at_+n⟩]) (some ⟨k,M.take n,at_,at_+n⟩) with
      | none=>none
      | some (x,q2)=>some (x,q++q2))
     else some (.error (at_,e),q)
theorem lexF_is {eF eG:BL→Int} {L:BL}:∀ (f:Nat) (M:BL) (at_:Nat) (acc:List Tk) (last:Option Tk) (r:Except (Nat×Int) (List Tk)) (q:List BL),lexF eG f M at_ acc last=some (r,q)→(∀ x∈q,eF x=eG x)→L.drop at_=M →
  Jt eF L at_ acc last=r
 | 0,_,_,_,_,_,_,h,_,_=>by cases h
 | f+1,M,at_,acc,last,r,q,h,hq,hd=>by
  cases M with
  | nil =>
   rw[ql6 hd];exact congrArg Prod.fst (Option.some.inj h)
  | cons c l =>
   obtain⟨hlen,hdr⟩:=drop_len hd
   rw[qji hd]
   unfold lexF at h
   simp only at h
   split at h
   · rename_i h1;rw[if_pos h1];exact lexF_is f l _ _ _ r q h hq hdr
   · rename_i h1
     rw[if_neg h1]
     split at h
     · rename_i h2;rw[if_pos h2];exact lexF_is f l _ _ _ r q h hq hdr
     · rename_i h2
       rw[if_neg h2]
       split at h
       · rename_i h3;rw[if_pos h3];exact lexF_is f _ _ _ _ r q h hq (by rw[← List.drop_drop,hdr])
       · rename_i h3
         rw[if_neg h3]
         cases ht:takeF eG f (c::l) with
         | none=>rw[ht] at h;cases h
         | some x =>
          obtain⟨⟨e,k,n⟩,q1⟩:=x
          rw[ht] at h
          simp only at h
          split at h
          · rename_i h4
            cases hx:lexF eG f ((c::l).drop n) (at_+n) (acc++[⟨k,(c::l).take n,at_,at_+n⟩]) (some ⟨k,(c::l).take n,at_,at_+n⟩) with
            | none=>rw[hx] at h;cases h
            | some y =>
             obtain⟨x,q2⟩:=y
             rw[hx] at h
             have e1:=congrArg Prod.fst (Option.some.inj h)
             have e2:=congrArg Prod.snd (Option.some.inj h)
             simp only at e1 e2
             have htk:=takeF_is ht (eF:=eF) (fun x hx=>hq x (by rw[← e2];exact List.mem_append_left _ hx))
             rw[htk,if_pos h4,← e1]
             exact lexF_is f _ _ _ _ x q2 hx (fun x hx=>hq x (by rw[← e2];exact List.mem_append_right _ hx)) (by rw[← List.drop_drop,hd])
          · rename_i h4
            have e1:=congrArg Prod.fst (Option.some.inj h)
            have e2:=congrArg Prod.snd (Option.some.inj h)
            simp only at e1 e2
            have htk:=takeF_is ht (eF:=eF) (fun x hx=>hq x (by rw[← e2];exact hx))
            rw[htk,if_neg h4,← e1]
def brkF:Nat→BL→Nat→Option (Option Nat)
 | 0,_,_=>none
 | f+1,L,k=>match L with
  | []=>some none
  | c::r=>if qW (c::r)=0 then some (some k) else brkF f ((c::r).drop (qW (c::r))) (k+qW (c::r))
theorem brkF_is {L:BL}:∀ (f k:Nat) (M:BL) (r:Option Nat),brkF f M k=some r→L.drop k=M→qcb L k=r
 | 0,_,_,_,h,_=>by cases h
 | f+1,k,M,r,h,hd=>by
  cases M with
  | nil=>rw[qfF (List.drop_eq_nil_iff.1 hd)];exact Option.some.inj h
  | cons c l =>
   obtain⟨hlen,hdr⟩:=drop_len hd
   unfold brkF at h
   simp only at h
   split at h
   · rename_i h0;rw[qeg (by omega) (by rw[hd];exact h0)];exact Option.some.inj h
   · rename_i h0
     rw[qd9 (by omega) (by rw[hd];exact h0),hd]
     exact brkF_is f _ _ r h (by rw[← List.drop_drop,hd])
theorem tokens_bad {L:BL} {e:Nat×Int} (h:L.length≤65536) (hb:qcb L 0=none) (hl:Jt eFv L 0 [] none = .error e):ja L = .error e:=by
 unfold ja;rw[if_neg (by omega),hb];exact hl
theorem mSaid (t:Tree) (r:RN) (w:World) (hm:NodeM w w.heap.size t r):Calls Tryz.prog 38 #[r.val] w (NodeR (.mk 20 0 0 0 [] [t]) w):=by
 have HM:=Lib.hid (fun W (hb:Below w.heap.size w W)=>hm.after (Nat.le_refl _) hb)
 clear hm
 unfold RN.val
 go_enter Tryz.func38,Tryz.ntmps38
 go_wp2_with fail
 refine bodyPost_ret (v:=(⟨20,0,0,0,⟨#[]⟩,some ⟨w.heap.size+1+1,0,none⟩,1,1⟩:RN).val) (by unfold RN.val;simp[results,Tryz.f38,go_sem];done) rfl ⟨⟨⟨20,0,0,0,⟨#[]⟩,some ⟨w.heap.size+1+1,0,none⟩,1,1⟩,rfl,qmp (rs:=[r]) (l:=[t]) (qG (by simp)) (by simp[RN.cells]) ⟨HM.out _ ?_,trivial⟩ 20 ⟨#[]⟩ 1 1 rfl⟩,?_⟩
 all_goals repeat (first | exact Below.refl _ _ | apply qt)
theorem mLoop (t:Tree) (r:RN) (w:World) (hm:NodeM w w.heap.size t r):Calls Tryz.prog 37 #[r.val] w (NodeR (qvN t) w):=by
 have HM:=Lib.hid (fun W (hb:Below w.heap.size w W)=>hm.after (Nat.le_refl _) hb)
 have HX:=Lib.hid (qb (o':=.cells #[.int .i64 0,.int .i64 0,.int .i64 0,.int .i64 0,.string ⟨#[]⟩,.slice none 0 0] 24) (heap_alloc_new w (qd r)))
 have HZ:=Lib.hid (qG (w:=w.alloc (qd r)) (o:=.cells #[.int .i64 0,.int .i64 0,.int .i64 0,.int .i64 0,.string ⟨#[]⟩,.slice none 0 0] 24) (g:=w.heap.size+1) (by simp))
 have HB:=Lib.hid (qt (o:=.cells #[.int .i64 0,.int .i64 0,.int .i64 0,.int .i64 0,.string ⟨#[]⟩,.slice none 0 0] 24) (qt (o:=qd r) (Below.refl w.heap.size w)))
 have hsz:((w.alloc (qd r)).alloc (.cells #[.int .i64 0,.int .i64 0,.int .i64 0,.int .i64 0,.string ⟨#[]⟩,.slice none 0 0] 24)).heap.size=w.heap.size+2:=by simp[World.size_alloc]
 obtain⟨W1,hW1⟩:∃ W1,(w.alloc (qd r)).alloc (.cells #[.int .i64 0,.int .i64 0,.int .i64 0,.int .i64 0,.string ⟨#[]⟩,.slice none 0 0] 24)=W1:=⟨_,rfl⟩
 rw[hW1] at HX HZ HB hsz
 replace hsz:=Lib.hid hsz
 clear hm
 unfold RN.val
 unfold qd at hW1
 go_enter Tryz.func37,Tryz.ntmps37
 go_wp2_with fail
 have HKP:=Lib.hid (fun W' (hBW:Below W1.heap.size W1 W')=>(show zS w w.heap.size r W' from by exact qhK HB.out HX.out hBW))
 refine zHD HKP fun hHeld=>?_
 refine zTk 0 (h:=?_)
 refine zTk 1 (h:=?_)
 refine zTk 2 (h:=?_)
 refine zRd 3 (h:=fun KK hKK=>?_)
 go_simp
 (refine(ql8 _ _ _ _).mono ?_;rintro e wA ⟨rfl,hbA'⟩;dsimp only[RN.val];have hbA:Below W1.heap.size W1 wA:=(by first | exact hbA' | exact qa (JU (Below.refl _ _)) hbA');clear hbA';have HS:=Lib.hid hbA.size;obtain⟨W3,hW3⟩:∃ W3,wA.alloc (.cells #[.int .i64 0,.int .i64 0,.int .i64 0,.int .i64 0,.string ⟨#[]⟩,.slice none 0 0,.int .i64 0,.int .i64 0,.int .i64 0,.int .i64 0,.string ⟨#[]⟩,.slice none 0 0,.int .i64 r.kind,.int .i64 r.fr,.int .i64 r.en,.int .i64 r.at_,.string r.name,.slice r.A r.n r.cap,.int .i64 10,.int .i64 0,.int .i64 0,.int .i64 0,.string ⟨#[]⟩,.slice none 0 0] 24)=W3:=⟨_,rfl⟩;have H3:=Lib.hid (qb (o':=.cells #[.int .i64 0,.int .i64 0,.int .i64 0,.int .i64 0,.string ⟨#[]⟩,.slice none 0 0,.int .i64 0,.int .i64 0,.int .i64 0,.int .i64 0,.string ⟨#[]⟩,.slice none 0 0,.int .i64 r.kind,.int .i64 r.fr,.int .i64 r.en,.int .i64 r.at_,.string r.name,.slice r.A r.n r.cap,.int .i64 10,.int .i64 0,.int .i64 0,.int .i64 0,.string ⟨#[]⟩,.slice none 0 0] 24) (qg HZ.out hbA));have HR:=Lib.hid (heap_alloc_new wA (.cells #[.int .i64 0,.int .i64 0,.int .i64 0,.int .i64 0,.string ⟨#[]⟩,.slice none 0 0,.int .i64 0,.int .i64 0,.int .i64 0,.int .i64 0,.string ⟨#[]⟩,.slice none 0 0,.int .i64 r.kind,.int .i64 r.fr,.int .i64 r.en,.int .i64 r.at_,.string r.name,.slice r.A r.n r.cap,.int .i64 10,.int .i64 0,.int .i64 0,.int .i64 0,.string ⟨#[]⟩,.slice none 0 0] 24));have HX3:=Lib.hid (qb (o':=.cells #[.int .i64 0,.int .i64 0,.int .i64 0,.int .i64 0,.string ⟨#[]⟩,.slice none 0 0,.int .i64 0,.int .i64 0,.int .i64 0,.int .i64 0,.string ⟨#[]⟩,.slice none 0 0,.int .i64 r.kind,.int .i64 r.fr,.int .i64 r.en,.int .i64 r.at_,.string r.name,.slice r.A r.n r.cap,.int .i64 10,.int .i64 0,.int .i64 0,.int .i64 0,.string ⟨#[]⟩,.slice none 0 0] 24) (qg HX.out hbA));have hb3:Below W1.heap.size W1 W3:=(by rw[← hW3];exact qt hbA);rw[hW3] at H3 HR HX3;obtain⟨z0,z1,z2,z3,z4,z5,zz,zl⟩:=qD H3.out;obtain⟨W4,hW4⟩:∃ W4,(((((W3.setCell ⟨w.heap.size+1,0,none⟩ (.int .i64 15)).setCell ⟨w.heap.size+1,1,none⟩ (.int .i64 0)).setCell ⟨w.heap.size+1,2,none⟩ (.int .i64 0)).setCell ⟨w.heap.size+1,3,none⟩ (.int .i64 0)).setCell ⟨w.heap.size+1,4,none⟩ (.string ⟨#[]⟩)).setCell ⟨w.heap.size+1,5,none⟩ (.slice (some ⟨wA.heap.size,0,none⟩) 4 4)=W4:=⟨_,rfl⟩;have HB4:=Lib.hid (show Below w.heap.size w W4 by rw[← hW4];exact qbG (qa HB.out hb3) (by omega));have HX4:=Lib.hid (show W4.heap[w.heap.size]?=some (qd r) by rw[← hW4,JX (by omega)];exact HX3.out);have HZ4:=Lib.hid (show W4.heap[w.heap.size+1]?=some (.cells #[.int .i64 15,.int .i64 0,.int .i64 0,.int .i64 0,.string ⟨#[]⟩,.slice (some ⟨wA.heap.size,0,none⟩) 4 4] 24 (0,0)) by rw[← hW4];exact qhI H3.out);have HR4:=Lib.hid (show W4.heap[wA.heap.size]?=some (.cells #[.int .i64 0,.int .i64 0,.int .i64 0,.int .i64 0,.string ⟨#[]⟩,.slice none 0 0,.int .i64 0,.int .i64 0,.int .i64 0,.int .i64 0,.string ⟨#[]⟩,.slice none 0 0,.int .i64 r.kind,.int .i64 r.fr,.int .i64 r.en,.int .i64 r.at_,.string r.name,.slice r.A r.n r.cap,.int .i64 10,.int .i64 0,.int .i64 0,.int .i64 0,.string ⟨#[]⟩,.slice none 0 0] 24) by rw[← hW4,JX (by have h1:=HS.out;have h2:=hsz.out;omega)];exact HR.out))
 (try go_wp2_with fail)
 refine hKK.out _ _ (by first | exact qbu HB4.out HX4.out | exact(zb HKP)) (fun hHeld2=>?_);clear hKK KK hHeld;rename _=>hHeld
 (try simp only[Act.put,zSa,zSb,zSc])
 refine zRd 4 (h:=fun KK hKK=>?_)
 go_simp
 refine hKK.out _ _ (by first | exact qbu HB4.out HX4.out | exact(zb HKP)) (fun hHeld2=>?_);clear hKK KK hHeld;rename _=>hHeld
 (try simp only[Act.put,zSa,zSb,zSc])
 refine zTk 5 (h:=?_)
 refine zRd 6 (h:=fun KK hKK=>?_)
 go_simp
 refine hKK.out _ _ (by first | exact qbu HB4.out HX4.out | exact(zb HKP)) (fun hHeld2=>?_);clear hKK KK hHeld;rename _=>hHeld
 (try simp only[Act.put,zSa,zSb,zSc])
 refine wpAnyH_done (by kernel_rfl) ?_ _
 go_wp2_with fail
 refine bodyPost_ret (v:=(⟨15,0,0,0,⟨#[]⟩,some ⟨wA.heap.size,0,none⟩,4,4⟩:RN).val) (results_cell_row (p:=2) rfl _ _ (w.heap.size+1) 24 _ (0,0) _ rfl (by first | (rw[hW4];exact HZ4.out) | exact HZ4.out) Tryz.underlying24 rfl (by kernel_rfl)) rfl ⟨⟨_,rfl,?_⟩,by first | (rw[hW4];exact HB4.out) | exact HB4.out⟩
 try rw[hW4]
 exact qmp (rs:=[QZ 0 ⟨#[]⟩,QZ 0 ⟨#[]⟩,r,QZ 10 ⟨#[]⟩]) (l:=[qaC,qaC,t,J2 []]) HR4.out (by simp[RN.cells,QZ]) ⟨qeQ _ 0 ⟨#[]⟩,qeQ _ 0 ⟨#[]⟩,HM.out _ HB4.out,qeQ _ 10 ⟨#[]⟩,trivial⟩ 15 ⟨#[]⟩ 4 4 rfl
theorem call_row {w3:World} {B:Nat} {v3:Value} {r:RN} {rs:List RN} (ho:OwnN w3 B v3 ([r]++rs)):∃ A3 c3 g3,v3 = .slice A3 (rs.length+1) c3∧A3=some ⟨g3,0,none⟩∧B≤g3∧RowOf RN.cells 6 w3 w3.heap.size A3 ([r]++rs):=by
 obtain⟨A,c,hv,hrow⟩:=ho.row RN.len
 have hlen:([r]++rs).length=rs.length+1:=by simp
 rcases ho.2 with⟨_,h0⟩ | ⟨g,cap,cur,hv2,hg1,rest⟩
 · simp at h0
 · rw[hv] at hv2
   injection hv2 with h1 h2 h3
   refine⟨A,c,g,by rw[hv,hlen],h1,hg1,hrow⟩
theorem mCall (t:Tree) (l:List Tree) (r:RN) (A:Option Addr) (c:Nat) (w:World) (hm:NodeM w w.heap.size t r) (hl:l.length≤1000) (hk:KidsM w w.heap.size A l) (hA:A=none→l.length=0):Calls Tryz.prog 35 #[r.val,.slice A l.length c] w (NodeR (quI t l) w):=by
 obtain⟨W2,hW2⟩:∃ W2,(w.alloc (qd r)).alloc (.cells #[.int .i64 0,.int .i64 0,.int .i64 0,.int .i64 0,.string ⟨#[]⟩,.slice none 0 0] 24)=W2:=⟨_,rfl⟩
 have hb2:Below w.heap.size w W2:=by rw[← hW2];exact qt (qt (Below.refl _ _))
 have hz2:W2.heap[w.heap.size+1]?=some (.cells #[.int .i64 0,.int .i64 0,.int .i64 0,.int .i64 0,.string ⟨#[]⟩,.slice none 0 0] 24 (0,0)):=by rw[← hW2];exact qG (by simp)
 have hx2:W2.heap[w.heap.size]?=some (qd r):=by rw[← hW2];exact qb (heap_alloc_new _ _)
 obtain⟨-,e0,e1,e2,e3,e4,e5⟩:=qh hx2 (Below.refl _ _)
 have hs2:W2.heap.size=w.heap.size+2:=by rw[← hW2];simp[World.size_alloc]
 have hO:=OwnN.one_ W2 r
 obtain⟨rs,hr0,hrl,hrk0⟩:=hk
 have hr:RowOf RN.cells 6 (W2.alloc (qd r)) W2.heap.size A rs:=(hr0.after (Nat.le_refl _) hb2).alloc (Nat.le_refl _) (qd r)
 have HK:=Lib.hid (fun W (hb:Below w.heap.size w W)=>And.intro (hm.after (Nat.le_refl _) hb) (fun(i:Nat) (x:Tree) (ry:RN) (hx:l[i]?=some x) (hry:rs[i]?=some ry)=>(hrk0 i x ry hx hry).after (Nat.le_refl _) hb))
 have HM:=Lib.hid (And.intro hb2 (And.intro hz2 (And.intro hs2 (And.intro hO (And.intro hr hrl)))))
 generalize hn:l.length=n at *
 have HN:=Lib.hid (And.intro hn (And.intro hl hA))
 clear hx2 hm hb2 hz2 hs2 hO hr hr0 hrk0 hrl hn hl hA
 unfold qd at hW2
 unfold RN.val
 go_enter Tryz.func35,Tryz.ntmps35
 go_wp2_with (at_builtin;go_must (refine wpList_append_rows rfl _ _ rfl rfl _ W2.heap.size W2.heap.size _ A n c [r] rs (by rfl) (by rfl) HM.out.2.2.2.1 HM.out.2.2.2.2.2.symm (by rw[HM.out.2.2.2.2.2];simp;have:=HN.out.2.1;omega) HM.out.2.2.2.2.1 (by rw[World.size_alloc];omega) HN.out.2.2 ?_);intro v3 w3 ho3 hg3;have hB3:Below W2.heap.size W2 w3:=(qt (o:=qd r) (Below.refl W2.heap.size W2)).grown hg3 (by rw[World.size_alloc];omega) (fun k hk=>by cases hk;exact Nat.le_refl _);obtain⟨A3,c3,g3,rfl,hA3,hg3w,hrow3⟩:=call_row ho3;obtain⟨z0,z1,z2,z3,z4,z5,zz,zl⟩:=qD (qg HM.out.2.1 hB3);have HB3:=Lib.hid (And.intro hB3 (And.intro hA3 (And.intro hg3w hrow3)));clear hB3 hA3 hg3w hrow3 ho3 hg3 e0 e1 e2 e3 e4 e5)
 have hn1:=HN.out.1
 have hrl:=HM.out.2.2.2.2.2
 have hs2:=HM.out.2.2.1
 obtain⟨hB3,hA3,hg3,hrow3⟩:=HB3.out
 refine bodyPost_ret (v:=(⟨27,0,0,0,⟨#[]⟩,A3,rs.length+1,c3⟩:RN).val) (results_cell_row (p:=4) rfl _ _ (w.heap.size+1) 24 _ (0,0) _ rfl (qhI (qg HM.out.2.1 hB3)) Tryz.underlying24 rfl (by kernel_rfl)) rfl ⟨⟨_,rfl,?_⟩,qbG (qa HM.out.1 hB3) (by omega)⟩
 generalize hW4:(((((w3.setCell ⟨w.heap.size+1,0,none⟩ (.int .i64 27)).setCell ⟨w.heap.size+1,1,none⟩ (.int .i64 0)).setCell ⟨w.heap.size+1,2,none⟩ (.int .i64 0)).setCell ⟨w.heap.size+1,3,none⟩ (.int .i64 0)).setCell ⟨w.heap.size+1,4,none⟩ (.string ⟨#[]⟩)).setCell ⟨w.heap.size+1,5,none⟩ (.slice A3 (rs.length+1) c3)=W4
 have hB4:Below w.heap.size w W4:=by rw[← hW4];exact qbG (qa HM.out.1 hB3) (by omega)
 have h4:W4.heap[g3]?=w3.heap[g3]?:=by rw[← hW4];exact JX (by omega)
 have hsz:W4.heap.size=w3.heap.size:=by rw[← hW4];simp
 have hrow4:RowOf RN.cells 6 W4 W4.heap.size A3 ([r]++rs):=by
  intro hp
  obtain⟨b,off,hA,hb,hc⟩:=hrow3 hp
  rw[hA3] at hA
  cases hA
  exact⟨_,_,hA3,by omega,fun i x hx j u hu=>(World.cell?_of_block h4).trans (hc i x hx j u hu)⟩
 rw[show rs.length+1=(t::l).length by simp;omega]
 refine NodeM.mk 27 0 0 0 [] (t::l) A3 c3 ([r]++rs) hrow4 (by simp;omega) (fun i x ry hx hr=>?_)
 cases i with
 | zero=>cases hx;cases hr;exact(HK.out _ hB4).1
 | succ i=>exact(HK.out _ hB4).2 i x ry (by simpa using hx) (by simpa using hr)
theorem NodeM.two {w w':World} {B B':Nat} {t:Tree} {r s:RN} (h:NodeM w B t r) (h':NodeM w' B' t s):∃ A c,s=⟨r.kind,r.fr,r.en,r.at_,r.name,A,r.n,c⟩:=by
 cases h;cases h';exact⟨_,_,rfl⟩
theorem NodeM.has {w:World} {B:Nat} {t:Tree} {r:RN} (h:NodeM w B t r) (fr to_:Int):hasV fr to_ t=(decide (r.kind≠0)&&decide (r.fr≤fr)&&decide (to_≤r.en)):=by
 unfold hasV;rw[h.kind,h.fr,h.en]
theorem box_keepC {w0 W':World} {b b' o:Nat} {r r':RN} (hx:w0.heap[b]?=some (qd r)) (hb:b'<w0.heap.size)
  (hc:w0.cell? ⟨b',o,none⟩=some (.int .i64 r'.kind)∧w0.cell? ⟨b',o+1,none⟩=some (.int .i64 r'.fr)∧w0.cell? ⟨b',o+2,none⟩=some (.int .i64 r'.en)∧w0.cell? ⟨b',o+3,none⟩=some (.int .i64 r'.at_)∧w0.cell? ⟨b',o+4,none⟩=some (.string r'.name)∧w0.cell? ⟨b',o+5,none⟩=some (.slice r'.A r'.n r'.cap)) (h:Below w0.heap.size w0 W') :
  zE w0 b r (fun w'=>w'.cell? ⟨b',o,none⟩=some (.int .i64 r'.kind)∧w'.cell? ⟨b',o+1,none⟩=some (.int .i64 r'.fr)∧w'.cell? ⟨b',o+2,none⟩=some (.int .i64 r'.en)∧w'.cell? ⟨b',o+3,none⟩=some (.int .i64 r'.at_)∧w'.cell? ⟨b',o+4,none⟩=some (.string r'.name)∧w'.cell? ⟨b',o+5,none⟩=some (.slice r'.A r'.n r'.cap)) W':=by
 obtain⟨-,e0,e1,e2,e3,e4,e5⟩:=qh hx h
 obtain⟨a0,a1,a2,a3,a4,a5⟩:=hc
 exact⟨h,e0,e1,e2,e3,e4,e5,(h.cell hb).trans a0,(h.cell hb).trans a1,(h.cell hb).trans a2,(h.cell hb).trans a3,(h.cell hb).trans a4,(h.cell hb).trans a5⟩
theorem kids_of {W0 W w1:World} {B:Nat} {A:Option Addr} {L:List Tree} {rs:List RN} (h0:B≤W0.heap.size) (hb1:Below W.heap.size W w1) (hrow:RowOf RN.cells 6 w1 w1.heap.size A rs) (hrl:ReadL W B L rs) (hW:Below W0.heap.size W0 W:=by repeat (first | exact zR _ | assumption | apply zA | apply zD | refine zT ?_ (by assumption))):KidsM w1 w1.heap.size A L:=by
 have h1:=hW.size
 have h2:=hb1.size
 exact⟨rs,hrow,hrl.1,fun i x rx hx hrx=>((hrl.2 i x rx hx hrx).under hb1 (by omega)).more (by omega)⟩
theorem tok01:qw [48,49] 3=false:=by
 have h:∃ e,ja [48,49] = .error e:=⟨_,tokens_bad (by decide) (brkF_is 20 0 _ none (by rfl) rfl) (lexF_is (eG:=fun _=>0) 50 _ 0 [] none _ [] (by rfl) (by simp) rfl)⟩
 obtain⟨e,h⟩:=h
 unfold qw;rw[h]
def fileT:Tree:=.mk 1 0 9 0 [112] []
def forT:Tree:=.mk 1 0 0 0 [102,111,114] []
theorem chk_file:jY qc qw fileT=0:=by
 have h:qbo qc qw fileT=true:=by simp[qbo,fileT,Tree.kind,Tree.name,Tree.kids,qbP,JB,qux]
 unfold jY;rw[if_neg (by decide),h];rfl
theorem chk_x:jY qc qw xT=4:=by
 have h:qbo qc qw xT=false:=by simp[qbo,xT,Tree.kind]
 unfold jY;rw[if_neg (by decide),h];rfl
theorem nm_for:qc [102,111,114]=false:=by decide +kernel
theorem chk_for:jY qc qw forT=4:=by
 have h:qbo qc qw forT=false:=by simp[qbo,forT,Tree.kind,Tree.name,nm_for]
 unfold jY;rw[if_neg (by decide),h];rfl
theorem kids1 {W:World} {g:Nat} {t:Tree} {r:RN} (hg:W.heap[g]?=some (.cells #[.int .i64 r.kind,.int .i64 r.fr,.int .i64 r.en,.int .i64 r.at_,.string r.name,.slice r.A r.n r.cap] 24 (0,0))) (hm:NodeM W W.heap.size t r):KidsM W W.heap.size (some ⟨g,0,none⟩) [t] :=
 ⟨[r],RowOf.there RN.len hg (by simp[RN.cells]),rfl,fun i x s hx hs=>by
  cases i with
  | zero=>cases hx;cases hs;exact hm
  | succ i=>simp at hx⟩
section
variable {P:Program} {ops:Array Oper} {Q:Exit→Act→World→Prop} {md:Region.Mode} {S:World→Prop} {fuel:Nat} {listed:Array Bool} {a:Act} {w:World} {W0:World}
theorem zGen (A:(Nat→Value)→Act) (h:∀ Y,wpAnyH P md ops Q S fuel listed (A Y) w) (ha:a=A (fun i=>a.tmps.getD i undef):=by rfl):wpAnyH P md ops Q S fuel listed a w:=by
 rw[ha];exact h _
theorem zL {l':Array Bool} (h:wpAnyH P md ops Q S fuel l' a w) (hl:listed=l':=by kernel_rfl):wpAnyH P md ops Q S fuel listed a w:=by
 rw[hl];exact h
theorem zJoin7 (f':Nat) (l':Array Bool) (A:Value→Value→Value→Value→Value→Value→Value→Act) (hc:∀ x0 x1 x2 x3 x4 x5 x6 w,Below W0.heap.size W0 w→S w→wpAnyH P md ops Q S f' l' (A x0 x1 x2 x3 x4 x5 x6) w) (h:Hid (∀ x0 x1 x2 x3 x4 x5 x6 w,Below W0.heap.size W0 w→S w→wpAnyH P md ops Q S f' l' (A x0 x1 x2 x3 x4 x5 x6) w)→wpAnyH P md ops Q S fuel listed a w):wpAnyH P md ops Q S fuel listed a w:=h (Lib.hid hc)
theorem zJoin8 (f':Nat) (l':Array Bool) (A:Value→Value→Value→Value→Value→Value→Value→Value→Act) (hc:∀ x0 x1 x2 x3 x4 x5 x6 x7 w,Below W0.heap.size W0 w→S w→wpAnyH P md ops Q S f' l' (A x0 x1 x2 x3 x4 x5 x6 x7) w) (h:Hid (∀ x0 x1 x2 x3 x4 x5 x6 x7 w,Below W0.heap.size W0 w→S w→wpAnyH P md ops Q S f' l' (A x0 x1 x2 x3 x4 x5 x6 x7) w)→wpAnyH P md ops Q S fuel listed a w):wpAnyH P md ops Q S fuel listed a w:=h (Lib.hid hc)
end
theorem lawKnown (w:World) (hG:LexG w):Calls Tryz.prog 10 #[] w fun e w'=>e = .returned (.bool true)∧Below w.heap.size w w':=by
 have HG:=Lib.hid hG
 clear hG
 go_enter Tryz.func10,Tryz.ntmps10
 go_wp2_with (go_at_call 29;refine(qrC _ _).mono ?_;rintro e wA ⟨⟨r,rfl,hm⟩,hbA⟩;unfold RN.val)
 obtain⟨W0,hW0⟩:∃ W0,((wA.alloc (.cells #[.int .i64 r.kind,.int .i64 r.fr,.int .i64 r.en,.int .i64 r.at_,.string r.name,.slice r.A r.n r.cap] 24)).alloc (.cells #[.int .i64 1,.int .i64 0,.int .i64 9,.int .i64 0,.string ⟨#[112]⟩,.slice none 0 0] 24)).alloc (.cells #[.int .i64 0,.int .i64 0,.int .i64 0,.int .i64 0,.string ⟨#[]⟩,.slice none 0 0] 24)=W0:=⟨_,rfl⟩
 have HX:=Lib.hid (show W0.heap[wA.heap.size]?=some (qd r)∧W0.heap[wA.heap.size+1]?=some (qd (⟨1,0,9,0,⟨#[112]⟩,none,0,0⟩:RN))∧W0.heap[wA.heap.size+1+1]?=some (qd (⟨0,0,0,0,⟨#[]⟩,none,0,0⟩:RN)) by
  rw[← hW0];exact⟨qb (qb (heap_alloc_new _ _)),qb (qG (by simp)),qG (by simp)⟩)
 have HB:=Lib.hid (show Below wA.heap.size wA W0 by rw[← hW0];exact zA (zA (zA (zR _))))
 have hm0:NodeM W0 W0.heap.size xT r:=hm.after (Nat.le_refl _) HB.out
 have hG0:LexG W0:=(HG.out.below hbA).below HB.out
 have HXM:=Lib.hid (fun W (hb:Below W0.heap.size W0 W)=>hm0.after (Nat.le_refl _) hb)
 have HW:=Lib.hid (fun W (hb:Below W0.heap.size W0 W)=>qsB W (hG0.below hb))
 have HMF:=Lib.hid (fun(W:World) (B:Nat)=>(NodeM.leaf W B 1 0 9 0 [112] none 0:NodeM W B fileT (⟨1,0,9,0,⟨#[112]⟩,none,0,0⟩:RN)))
 have HCF:=Lib.hid (fun W (hb:Below W0.heap.size W0 W)=>qh8 fileT _ W (hG0.below hb) (HMF.out W W.heap.size) (by decide))
 have HCX:=Lib.hid (fun W (hb:Below W0.heap.size W0 W)=>qh8 xT r W (hG0.below hb) (HXM.out W hb) (by decide))
 have HCG:=Lib.hid (fun W (hb:Below W0.heap.size W0 W)=>qh8 forT _ W (hG0.below hb) (NodeM.leaf W W.heap.size 1 0 0 0 [102,111,114] none 0) (by decide))
 have HDF:=Lib.hid (fun W=>qi2 fileT _ W (HMF.out W W.heap.size) (by decide))
 have HDN:=Lib.hid (fun W=>qi2 qaC _ W (NodeM.leaf W W.heap.size 0 0 0 0 [] none 0) (by decide))
 rw[chk_file] at HCF
 rw[chk_x] at HCX
 rw[chk_for] at HCG
 rw[show jc fileT=1 from by decide] at HDF
 rw[show jc qaC=0 from by decide] at HDN
 have HS:=Lib.hid (fun W' (hBW:Below W0.heap.size W0 W')=>(show(zE W0 wA.heap.size r (fun w'=>(w'.cell? ⟨wA.heap.size+1,0,none⟩=some (.int .i64 1)∧w'.cell? ⟨wA.heap.size+1,1,none⟩=some (.int .i64 0)∧w'.cell? ⟨wA.heap.size+1,2,none⟩=some (.int .i64 9)∧w'.cell? ⟨wA.heap.size+1,3,none⟩=some (.int .i64 0)∧w'.cell? ⟨wA.heap.size+1,4,none⟩=some (.string ⟨#[112]⟩)∧w'.cell? ⟨wA.heap.size+1,5,none⟩=some (.slice none 0 0))∧w'.cell? ⟨wA.heap.size+1+1,0,none⟩=some (.int .i64 0)∧w'.cell? ⟨wA.heap.size+1+1,1,none⟩=some (.int .i64 0)∧w'.cell? ⟨wA.heap.size+1+1,2,none⟩=some (.int .i64 0)∧w'.cell? ⟨wA.heap.size+1+1,3,none⟩=some (.int .i64 0)∧w'.cell? ⟨wA.heap.size+1+1,4,none⟩=some (.string ⟨#[]⟩)∧w'.cell? ⟨wA.heap.size+1+1,5,none⟩=some (.slice none 0 0))) W' from by
  obtain⟨-,e0,e1,e2,e3,e4,e5⟩:=qh HX.out.1 hBW
  obtain⟨-,f0,f1,f2,f3,f4,f5⟩:=qh HX.out.2.1 hBW
  obtain⟨-,n0,n1,n2,n3,n4,n5⟩:=qh HX.out.2.2 hBW
  exact⟨hBW,e0,e1,e2,e3,e4,e5,⟨f0,f1,f2,f3,f4,f5⟩,n0,n1,n2,n3,n4,n5⟩))
 have HK1:=Lib.hid (qmc hG0 (by decide) (known1 qc qw quy qux quA quB quv))
 have HK2:=Lib.hid (qmc hG0 (by decide) (known2 qc qw quy qux quA quB quv))
 have HK3:=Lib.hid (qq5 hG0 (by decide) (known3 qc qw quy qux quA quB quv tok01))
 have HK4:=Lib.hid (qmc hG0 (by decide) (known4 qc qw quy qux quA quB quv))
 have HK5:=Lib.hid (qq5 hG0 (by decide) (known5 qc qw quy qux quA quB quv))
 have HK6:=Lib.hid (qq5 hG0 (by decide) (known6 qc qw quy qux quA quB quv))
 have HK7:=Lib.hid (qmc hG0 (by decide) (known7 qc qw quy qux quA quB quv))
 have HK8:=Lib.hid (qq5 hG0 (by decide) (known8 qc qw quy qux quA quB quv))
 have HK9:=Lib.hid (qq5 hG0 (by decide) (known9 qc qw quy qux quA quB quv))
 clear hG0 hm0 hm
 rw[show((wA.alloc (.cells #[.int .i64 r.kind,.int .i64 r.fr,.int .i64 r.en,.int .i64 r.at_,.string r.name,.slice r.A r.n r.cap] 24)).alloc (.cells #[.int .i64 1,.int .i64 0,.int .i64 9,.int .i64 0,.string ⟨#[112]⟩,.slice none 0 0] 24)).alloc (.cells #[.int .i64 0,.int .i64 0,.int .i64 0,.int .i64 0,.string ⟨#[]⟩,.slice none 0 0] 24)=W0 from hW0]
 obtain⟨-,e0,e1,e2,e3,e4,e5,⟨f0,f1,f2,f3,f4,f5⟩,n0,n1,n2,n3,n4,n5⟩:=HS.out _ (zR _)
 unfold RN.val at HCF HCX HCG HDF HDN
 go_wp2_with (first | (go_at_call 14;have hz:=hv5;go_must (refine(HDN.out _).mono ?_);clear hz;rintro e v6 ⟨rfl,hy6⟩;have hv6:=zT hv5 hy6;clear e0 e1 e2 e3 e4 e5 f0 f1 f2 f3 f4 f5 n0 n1 n2 n3 n4 n5;obtain⟨-,e0,e1,e2,e3,e4,e5,⟨f0,f1,f2,f3,f4,f5⟩,n0,n1,n2,n3,n4,n5⟩:=HS.out _ hv6) | (go_at_call 14;have hz:=hv4;go_must (refine(HDF.out _).mono ?_);clear hz;rintro e v5 ⟨rfl,hy5⟩;have hv5:=zT hv4 hy5;clear e0 e1 e2 e3 e4 e5 f0 f1 f2 f3 f4 f5 n0 n1 n2 n3 n4 n5;obtain⟨-,e0,e1,e2,e3,e4,e5,⟨f0,f1,f2,f3,f4,f5⟩,n0,n1,n2,n3,n4,n5⟩:=HS.out _ hv5) | (go_at_call 13;have hz:=hv3;go_must (refine(HCG.out _ hv3).mono ?_);clear hz;rintro e v4 ⟨rfl,hy4⟩;have hv4:=zT hv3 hy4;clear e0 e1 e2 e3 e4 e5 f0 f1 f2 f3 f4 f5 n0 n1 n2 n3 n4 n5;obtain⟨-,e0,e1,e2,e3,e4,e5,⟨f0,f1,f2,f3,f4,f5⟩,n0,n1,n2,n3,n4,n5⟩:=HS.out _ hv4) | (go_at_call 13;have hz:=hv2;go_must (refine(HCX.out _ hv2).mono ?_);clear hz;rintro e v3 ⟨rfl,hy3⟩;have hv3:=zT hv2 hy3;clear e0 e1 e2 e3 e4 e5 f0 f1 f2 f3 f4 f5 n0 n1 n2 n3 n4 n5;obtain⟨-,e0,e1,e2,e3,e4,e5,⟨f0,f1,f2,f3,f4,f5⟩,n0,n1,n2,n3,n4,n5⟩:=HS.out _ hv3) | (go_at_call 13;have hz:=hv1;go_must (refine(HCF.out _ hv1).mono ?_);clear hz;rintro e v2 ⟨rfl,hy2⟩;have hv2:=zT hv1 hy2;clear e0 e1 e2 e3 e4 e5 f0 f1 f2 f3 f4 f5 n0 n1 n2 n3 n4 n5;obtain⟨-,e0,e1,e2,e3,e4,e5,⟨f0,f1,f2,f3,f4,f5⟩,n0,n1,n2,n3,n4,n5⟩:=HS.out _ hv2) | (go_at_call 12;refine(HW.out _ (zR _)).mono ?_;rintro e v1 ⟨rfl,hv1⟩;clear e0 e1 e2 e3 e4 e5 f0 f1 f2 f3 f4 f5 n0 n1 n2 n3 n4 n5;obtain⟨-,e0,e1,e2,e3,e4,e5,⟨f0,f1,f2,f3,f4,f5⟩,n0,n1,n2,n3,n4,n5⟩:=HS.out _ hv1))
 obtain⟨g4,hg4⟩:∃ g4,v6.heap.size=g4:=⟨_,rfl⟩
 rw[hg4]
 obtain⟨W1,hW1⟩:∃ W1,((v6.alloc (.cells #[.int .i64 r.kind,.int .i64 r.fr,.int .i64 r.en,.int .i64 r.at_,.string r.name,.slice r.A r.n r.cap] 24)).alloc (.cells #[.int .i64 30,.int .i64 0,.int .i64 0,.int .i64 0,.string ⟨#[45]⟩,.slice (some ⟨g4,0,none⟩) 1 1] 24)).alloc (.cells #[.int .i64 21,.int .i64 0,.int .i64 0,.int .i64 0,.string ⟨#[48,49]⟩,.slice none 0 0] 24)=W1:=⟨_,rfl⟩
 have HX1:=Lib.hid (show W1.heap[g4]?=some (.cells #[.int .i64 r.kind,.int .i64 r.fr,.int .i64 r.en,.int .i64 r.at_,.string r.name,.slice r.A r.n r.cap] 24 (0,0))∧W1.heap[g4+1]?=some (qd (⟨30,0,0,0,⟨#[45]⟩,(some ⟨g4,0,none⟩),1,1⟩:RN))∧W1.heap[g4+1+1]?=some (qd (⟨21,0,0,0,⟨#[48,49]⟩,none,0,0⟩:RN)) by
  rw[← hW1];exact⟨qb (qb (qG hg4.symm)),qb (qG (by simp[hg4])),qG (by simp[hg4])⟩)
 have hB1:Below W0.heap.size W0 W1:=zT hv6 (by rw[← hW1];exact zA (zA (zA (zR _))))
 have HB1:=Lib.hid hB1
 have HXM1:=Lib.hid (fun W (hb:Below W1.heap.size W1 W)=>HXM.out W (zT hB1 hb))
 have hmm:NodeM W1 W1.heap.size (.mk 30 0 0 0 [45] [xT]) (⟨30,0,0,0,⟨#[45]⟩,(some ⟨g4,0,none⟩),1,1⟩:RN):=qmp (rs:=[r]) (l:=[xT]) HX1.out.1 (by simp[RN.cells]) ⟨HXM1.out W1 (zR _),trivial⟩ 30 ⟨#[45]⟩ 1 1 rfl
 have HMM:=Lib.hid (fun W (hb:Below W1.heap.size W1 W)=>hmm.after (Nat.le_refl _) hb)
 have HB0:=Lib.hid (zT HB.out hB1:Below wA.heap.size wA W1)
 have HBA:=Lib.hid hbA
 have HL1:=Lib.hid (fun W (hb:Below W1.heap.size W1 W)=>HK1.out W (zT HB1.out hb))
 have HL2:=Lib.hid (fun W (hb:Below W1.heap.size W1 W)=>HK2.out W (zT HB1.out hb))
 have HL3:=Lib.hid (fun W (hb:Below W1.heap.size W1 W)=>HK3.out W (zT HB1.out hb))
 have HL4:=Lib.hid (fun W (hb:Below W1.heap.size W1 W)=>HK4.out W (zT HB1.out hb))
 have HL5:=Lib.hid (fun W (hb:Below W1.heap.size W1 W)=>HK5.out W (zT HB1.out hb))
 have HL6:=Lib.hid (fun W (hb:Below W1.heap.size W1 W)=>HK6.out W (zT HB1.out hb))
 have HL7:=Lib.hid (fun W (hb:Below W1.heap.size W1 W)=>HK7.out W (zT HB1.out hb))
 have HL8:=Lib.hid (fun W (hb:Below W1.heap.size W1 W)=>HK8.out W (zT HB1.out hb))
 have HL9:=Lib.hid (fun W (hb:Below W1.heap.size W1 W)=>HK9.out W (zT HB1.out hb))
 have HKP:=Lib.hid (fun W' (hBW:Below W1.heap.size W1 W')=>(show(zE W1 wA.heap.size r (fun w'=>(w'.cell? ⟨wA.heap.size+1,0,none⟩=some (.int .i64 1)∧w'.cell? ⟨wA.heap.size+1,1,none⟩=some (.int .i64 0)∧w'.cell? ⟨wA.heap.size+1,2,none⟩=some (.int .i64 9)∧w'.cell? ⟨wA.heap.size+1,3,none⟩=some (.int .i64 0)∧w'.cell? ⟨wA.heap.size+1,4,none⟩=some (.string ⟨#[112]⟩)∧w'.cell? ⟨wA.heap.size+1,5,none⟩=some (.slice none 0 0))∧(w'.cell? ⟨g4+1,0,none⟩=some (.int .i64 30)∧w'.cell? ⟨g4+1,1,none⟩=some (.int .i64 0)∧w'.cell? ⟨g4+1,2,none⟩=some (.int .i64 0)∧w'.cell? ⟨g4+1,3,none⟩=some (.int .i64 0)∧w'.cell? ⟨g4+1,4,none⟩=some (.string ⟨#[45]⟩)∧w'.cell? ⟨g4+1,5,none⟩=some (.slice (some ⟨g4,0,none⟩) 1 1))∧w'.cell? ⟨g4+1+1,0,none⟩=some (.int .i64 21)∧w'.cell? ⟨g4+1+1,1,none⟩=some (.int .i64 0)∧w'.cell? ⟨g4+1+1,2,none⟩=some (.int .i64 0)∧w'.cell? ⟨g4+1+1,3,none⟩=some (.int .i64 0)∧w'.cell? ⟨g4+1+1,4,none⟩=some (.string ⟨#[48,49]⟩)∧w'.cell? ⟨g4+1+1,5,none⟩=some (.slice none 0 0))) W' from by
  obtain⟨-,e0,e1,e2,e3,e4,e5⟩:=qh HX.out.1 (zT HB1.out hBW)
  obtain⟨-,f0,f1,f2,f3,f4,f5⟩:=qh HX.out.2.1 (zT HB1.out hBW)
  obtain⟨-,n0,n1,n2,n3,n4,n5⟩:=qh HX1.out.2.1 hBW
  obtain⟨-,o0,o1,o2,o3,o4,o5⟩:=qh HX1.out.2.2 hBW
  exact⟨hBW,e0,e1,e2,e3,e4,e5,⟨f0,f1,f2,f3,f4,f5⟩,⟨n0,n1,n2,n3,n4,n5⟩,o0,o1,o2,o3,o4,o5⟩))
 clear hmm hB1 hbA hv1 hv2 hv3 hv4 hv5 hv6 hy2 hy3 hy4 hy5 hy6 e0 e1 e2 e3 e4 e5 f0 f1 f2 f3 f4 f5 n0 n1 n2 n3 n4 n5
 rw[show((v6.alloc (.cells #[.int .i64 r.kind,.int .i64 r.fr,.int .i64 r.en,.int .i64 r.at_,.string r.name,.slice r.A r.n r.cap] 24)).alloc (.cells #[.int .i64 30,.int .i64 0,.int .i64 0,.int .i64 0,.string ⟨#[45]⟩,.slice (some ⟨g4,0,none⟩) 1 1] 24)).alloc (.cells #[.int .i64 21,.int .i64 0,.int .i64 0,.int .i64 0,.string ⟨#[48,49]⟩,.slice none 0 0] 24)=W1 from hW1]
 go_cut [70] from 8 (fun s70 W=>s70 = .bool false∧Below W1.heap.size W1 W)
 case first =>
   refine zHD HKP fun hHeld=>?_
   refine zTk 0 (hk:=by as_aux_lemma=>kernel_rfl) (h:=?_)
   refine zTk 1 (hk:=by as_aux_lemma=>kernel_rfl) (h:=?_)
   refine zTk 2 (hk:=by as_aux_lemma=>kernel_rfl) (h:=?_)
   refine zRd 3 (hr:=by as_aux_lemma=>kernel_rfl) (h:=fun KK hKK=>?_)
   go_simp
   (refine(qut ⟨#[38,38]⟩ xT xT r r _ ((zb HXM1)) ((zb HXM1))).mono ?_;rintro e w1 ⟨⟨r1,rfl,hm1⟩,hb1⟩;unfold RN.val)
   go_simp
   refine zKK hKK HKP fun hHeld2=>?_;clear hKK KK hHeld;rename _=>hHeld
   refine zRd 4 (hr:=by as_aux_lemma=>kernel_rfl) (h:=fun KK hKK=>?_)
   go_simp
   (refine(qut ⟨#[124,124]⟩ xT (qeR [38,38] xT xT) r r1 _ ((zb HXM1)) (hm1.after (Nat.le_refl _) (by repeat (first | exact zR _ | assumption | apply zA | apply zD | refine zT ?_ (by assumption))))).mono ?_;rintro e w2 ⟨⟨r2,rfl,hm2⟩,hb2⟩;unfold RN.val)
   go_simp
   refine zKK hKK HKP fun hHeld2=>?_;clear hKK KK hHeld;rename _=>hHeld
   refine zRd 5 (hr:=by as_aux_lemma=>kernel_rfl) (h:=fun KK hKK=>?_)
   go_simp
   (refine(qrR (qeR [124,124] xT (qeR [38,38] xT xT)) r2 _ (hm2.after (Nat.le_refl _) (by repeat (first | exact zR _ | assumption | apply zA | apply zD | refine zT ?_ (by assumption))))).mono ?_;rintro e w3 ⟨⟨r3,rfl,hm3⟩,hb3⟩;unfold RN.val)
   go_simp
   refine zKK hKK HKP fun hHeld2=>?_;clear hKK KK hHeld;rename _=>hHeld
   refine zRd 6 (hr:=by as_aux_lemma=>kernel_rfl) (h:=fun KK hKK=>?_)
   go_simp
   (refine((zb HL1) r3 (hm3.after (Nat.le_refl _) (by repeat (first | exact zR _ | assumption | apply zA | apply zD | refine zT ?_ (by assumption))))).mono ?_;rintro e w4 ⟨rfl,hb4⟩)
   go_simp
   refine zKK hKK HKP fun hHeld2=>?_;clear hKK KK hHeld;rename _=>hHeld
   refine zTk 7 (hk:=by as_aux_lemma=>kernel_rfl) (h:=?_)
   refine zTk 8 (hk:=by as_aux_lemma=>kernel_rfl) (h:=?_)
   refine zTk 9 (hk:=by as_aux_lemma=>kernel_rfl) (h:=?_)
   refine zRd 10 (hr:=by as_aux_lemma=>kernel_rfl) (h:=fun KK hKK=>?_)
   go_simp
   (refine(qrR (.mk 30 0 0 0 [45] [xT]) (⟨30,0,0,0,⟨#[45]⟩,(some ⟨g4,0,none⟩),1,1⟩:RN) _ ((zb HMM))).mono ?_;rintro e w5 ⟨⟨r5,rfl,hm5⟩,hb5⟩;unfold RN.val)
   go_simp
   refine zKK hKK HKP fun hHeld2=>?_;clear hKK KK hHeld;rename _=>hHeld
   refine zRd 11 (hr:=by as_aux_lemma=>kernel_rfl) (h:=fun KK hKK=>?_)
   go_simp
   (refine((zb HL2) r5 (hm5.after (Nat.le_refl _) (by repeat (first | exact zR _ | assumption | apply zA | apply zD | refine zT ?_ (by assumption))))).mono ?_;rintro e w6 ⟨rfl,hb6⟩)
   go_simp
   refine zKK hKK HKP fun hHeld2=>?_;clear hKK KK hHeld;rename _=>hHeld
   refine zTk 12 (hk:=by as_aux_lemma=>kernel_rfl) (h:=?_)
   refine zTk 13 (hk:=by as_aux_lemma=>kernel_rfl) (h:=?_)
   refine zTk 14 (hk:=by as_aux_lemma=>kernel_rfl) (h:=?_)
   refine zTk 15 (hk:=by as_aux_lemma=>kernel_rfl) (h:=?_)
   refine zRd 16 (hr:=by as_aux_lemma=>kernel_rfl) (h:=fun KK hKK=>?_)
   go_simp
   (refine(qrR (.mk 21 0 0 0 [48,49] []) _ _ (qeQ _ 21 ⟨#[48,49]⟩)).mono ?_;rintro e w7 ⟨⟨r7,rfl,hm7⟩,hb7⟩;unfold RN.val)
   go_simp
   refine zKK hKK HKP fun hHeld2=>?_;clear hKK KK hHeld;rename _=>hHeld
   refine zRd 17 (hr:=by as_aux_lemma=>kernel_rfl) (h:=fun KK hKK=>?_)
   go_simp
   (refine((zb HL3) r7 (hm7.after (Nat.le_refl _) (by repeat (first | exact zR _ | assumption | apply zA | apply zD | refine zT ?_ (by assumption))))).mono ?_;rintro e w8 ⟨rfl,hb8⟩)
   go_simp
   refine zKK hKK HKP fun hHeld2=>?_;clear hKK KK hHeld;rename _=>hHeld
   refine zTk 18 (hk:=by as_aux_lemma=>kernel_rfl) (h:=?_)
   refine zTk 19 (hk:=by as_aux_lemma=>kernel_rfl) (h:=?_)
   refine zTk 20 (hk:=by as_aux_lemma=>kernel_rfl) (h:=?_)
   refine zRd 21 (hr:=by as_aux_lemma=>kernel_rfl) (h:=fun KK hKK=>?_)
   go_simp
   (refine(qrC ⟨#[102]⟩ _).mono ?_;rintro e w9 ⟨⟨r9,rfl,hm9⟩,hb9⟩;unfold RN.val)
   go_simp
   refine zKK hKK HKP fun hHeld2=>?_;clear hKK KK hHeld;rename _=>hHeld
   refine zRd 22 (hr:=by as_aux_lemma=>kernel_rfl) (h:=fun KK hKK=>?_)
   go_simp
   (refine(qw5 _).mono ?_;rintro e w10 ⟨⟨r10,rfl,hm10⟩,hb10⟩;unfold RN.val)
   go_simp
   refine zKK hKK HKP fun hHeld2=>?_;clear hKK KK hHeld;rename _=>hHeld
   refine zRd 23 (hr:=by as_aux_lemma=>kernel_rfl) (h:=fun KK hKK=>?_)
   go_simp
   refine zKK hKK HKP fun hHeld2=>?_;clear hKK KK hHeld;rename _=>hHeld
   refine zRd 24 (hr:=by as_aux_lemma=>kernel_rfl) (h:=fun KK hKK=>?_)
   go_simp
   (refine(mCall (quS [102]) [qhh] r9 _ 1 _ (hm9.after (Nat.le_refl _) (by repeat (first | exact zR _ | assumption | apply zA | apply zD | refine zT ?_ (by assumption)))) (by decide) (kids1 (r:=r10) (by repeat (first | assumption | exact heap_alloc_new _ _ | (refine qG ?_;simp;done) | apply qb | (refine qg ?_ (by assumption)))) (hm10.after (Nat.le_refl _) (by repeat (first | exact zR _ | assumption | apply zA | apply zD | refine zT ?_ (by assumption))))) (by intro h;cases h)).mono ?_;rintro e w11 ⟨⟨r11,rfl,hm11⟩,hb11⟩;unfold RN.val)
   go_simp
   refine zKK hKK HKP fun hHeld2=>?_;clear hKK KK hHeld;rename _=>hHeld
   refine zRd 25 (hr:=by as_aux_lemma=>kernel_rfl) (h:=fun KK hKK=>?_)
   go_simp
   (refine(qjZ (quI (quS [102]) [qhh]) r11 _ (hm11.after (Nat.le_refl _) (by repeat (first | exact zR _ | assumption | apply zA | apply zD | refine zT ?_ (by assumption))))).mono ?_;rintro e w12 ⟨⟨r12,rfl,hm12⟩,hb12⟩;unfold RN.val)
   go_simp
   refine zKK hKK HKP fun hHeld2=>?_;clear hKK KK hHeld;rename _=>hHeld
   refine zRd 26 (hr:=by as_aux_lemma=>kernel_rfl) (h:=fun KK hKK=>?_)
   go_simp
   (refine((zb HL4) r12 (hm12.after (Nat.le_refl _) (by repeat (first | exact zR _ | assumption | apply zA | apply zD | refine zT ?_ (by assumption))))).mono ?_;rintro e w13 ⟨rfl,hb13⟩)
   go_simp
   refine zKK hKK HKP fun hHeld2=>?_;clear hKK KK hHeld;rename _=>hHeld
   refine zTk 27 (hk:=by as_aux_lemma=>kernel_rfl) (h:=?_)
   refine zTk 28 (hk:=by as_aux_lemma=>kernel_rfl) (h:=?_)
   refine wpAnyH_done (by kernel_rfl) ?_ _
   go_wp2_with fail
   go_meet
   case rel=>exact⟨rfl,hHeld.1⟩
 case rest =>
 obtain⟨rfl,hE1⟩:=hcut
 go_upto_region 10 with fail
 go_cut [111] from 8 (fun s111 W=>s111 = .bool false∧Below W1.heap.size W1 W)
 case first =>
   refine zHD HKP fun hHeld=>?_
   refine zTk 0 (hk:=by as_aux_lemma=>kernel_rfl) (h:=?_)
   refine zRd 1 (hr:=by as_aux_lemma=>kernel_rfl) (h:=fun KK hKK=>?_)
   go_simp
   refine zKK hKK HKP fun hHeld2=>?_;clear hKK KK hHeld;rename _=>hHeld
   refine zTk 2 (hk:=by as_aux_lemma=>kernel_rfl) (h:=?_)
   refine zRd 3 (hr:=by as_aux_lemma=>kernel_rfl) (h:=fun KK hKK=>?_)
   go_simp
   (refine(mLoop (.mk 12 0 0 0 [120] [xT]) _ _ (qmp (rs:=[r]) (l:=[xT]) (by repeat (first | assumption | exact heap_alloc_new _ _ | (refine qG ?_;simp;done) | apply qb | (refine qg ?_ (by assumption)))) (by simp[RN.cells]) ⟨((zb HXM1)),trivial⟩ 12 ⟨#[120]⟩ 1 1 rfl)).mono ?_;rintro e w21 ⟨⟨r21,rfl,hm21⟩,hb21⟩;unfold RN.val)
   go_simp
   refine zKK hKK HKP fun hHeld2=>?_;clear hKK KK hHeld;rename _=>hHeld
   refine zRd 4 (hr:=by as_aux_lemma=>kernel_rfl) (h:=fun KK hKK=>?_)
   go_simp
   (refine((zb HL5) r21 (hm21.after (Nat.le_refl _) (by repeat (first | exact zR _ | assumption | apply zA | apply zD | refine zT ?_ (by assumption))))).mono ?_;rintro e w22 ⟨rfl,hb22⟩)
   go_simp
   refine zKK hKK HKP fun hHeld2=>?_;clear hKK KK hHeld;rename _=>hHeld
   refine zTk 5 (hk:=by as_aux_lemma=>kernel_rfl) (h:=?_)
   refine zTk 6 (hk:=by as_aux_lemma=>kernel_rfl) (h:=?_)
   refine zTk 7 (hk:=by as_aux_lemma=>kernel_rfl) (h:=?_)
   refine zRd 8 (hr:=by as_aux_lemma=>kernel_rfl) (h:=fun KK hKK=>?_)
   go_simp
   (refine(mSaid xT r _ ((zb HXM1))).mono ?_;rintro e w23 ⟨⟨r23,rfl,hm23⟩,hb23⟩;unfold RN.val)
   go_simp
   refine zKK hKK HKP fun hHeld2=>?_;clear hKK KK hHeld;rename _=>hHeld
   refine zRd 9 (hr:=by as_aux_lemma=>kernel_rfl) (h:=fun KK hKK=>?_)
   go_simp
   (refine((zb HL6) r23 (hm23.after (Nat.le_refl _) (by repeat (first | exact zR _ | assumption | apply zA | apply zD | refine zT ?_ (by assumption))))).mono ?_;rintro e w24 ⟨rfl,hb24⟩)
   go_simp
   refine zKK hKK HKP fun hHeld2=>?_;clear hKK KK hHeld;rename _=>hHeld
   refine zTk 10 (hk:=by as_aux_lemma=>kernel_rfl) (h:=?_)
   refine zTk 11 (hk:=by as_aux_lemma=>kernel_rfl) (h:=?_)
   refine zTk 12 (hk:=by as_aux_lemma=>kernel_rfl) (h:=?_)
   refine zTk 14 (hk:=by as_aux_lemma=>kernel_rfl) (h:=?_)
   refine zGen (fun Y=>{ tmps:=#[.bool false,.pointer (some ⟨wA.heap.size,0,none⟩),.pointer (some ⟨wA.heap.size+1,0,none⟩),.pointer (some ⟨wA.heap.size+1+1,0,none⟩),.pointer (some ⟨g4+1,0,none⟩),.pointer (some ⟨g4+1+1,0,none⟩),undef,undef,Y 8,Y 9,Y 10,Y 11,Y 12,Y 13,Y 14,Y 15,Y 16,Y 17,Y 18,Y 19,Y 20,Y 21,Y 22,Y 23,Y 24,Y 25,Y 26,Y 27,Y 28,Y 29,Y 30,Y 31,Y 32,Y 33,Y 34,Y 35,Y 36,Y 37,Y 38,Y 39,Y 40,Y 41,Y 42,Y 43,Y 44,Y 45,Y 46,Y 47,Y 48,Y 49,Y 50,Y 51,Y 52,Y 53,Y 54,Y 55,Y 56,Y 57,Y 58,Y 59,Y 60,Y 61,Y 62,Y 63,Y 64,Y 65,Y 66,Y 67,Y 68,Y 69,Y 70,Y 71,Y 72,Y 73,Y 74,Y 75,Y 76,Y 77,Y 78,Y 79,Y 80,Y 81,Y 82,.bool false,Y 84,.agg #[.int .i64 r.kind,.int .i64 r.fr,.int .i64 r.en,.int .i64 r.at_,.string r.name,.slice r.A r.n r.cap],Y 86,Y 87,Y 88,Y 89,Y 90,Y 91,Y 92,Y 93,Y 94,Y 95,Y 96,Y 97,Y 98,Y 99,Y 100,Y 101,Y 102,Y 103,Y 104,Y 105,Y 106,Y 107,Y 108,Y 109,Y 110,Y 111,Y 112,Y 113,Y 114,Y 115,Y 116,Y 117,Y 118,Y 119,Y 120,Y 121,Y 122,Y 123,Y 124,Y 125,Y 126,Y 127,Y 128,Y 129,Y 130,Y 131,Y 132,Y 133,Y 134,Y 135,Y 136,Y 137,Y 138,Y 139,Y 140,Y 141,Y 142],defers:=[] }) (fun Y=>?_)
   (try dsimp only)
   refine zJoin7 (W0:=W1) 19 #[true,true,true,true,true,true,true,true,true,true,true,true,true,true,true,true,true,true,true,true,true,true,false,false,false,false,false,false,false,false,false,false,false,false,false,false,false,false,false,false,false] (fun x84 x86 x87 x88 x89 x90 x91=>{ tmps:=#[.bool false,.pointer (some ⟨wA.heap.size,0,none⟩),.pointer (some ⟨wA.heap.size+1,0,none⟩),.pointer (some ⟨wA.heap.size+1+1,0,none⟩),.pointer (some ⟨g4+1,0,none⟩),.pointer (some ⟨g4+1+1,0,none⟩),undef,undef,Y 8,Y 9,Y 10,Y 11,Y 12,Y 13,Y 14,Y 15,Y 16,Y 17,Y 18,Y 19,Y 20,Y 21,Y 22,Y 23,Y 24,Y 25,Y 26,Y 27,Y 28,Y 29,Y 30,Y 31,Y 32,Y 33,Y 34,Y 35,Y 36,Y 37,Y 38,Y 39,Y 40,Y 41,Y 42,Y 43,Y 44,Y 45,Y 46,Y 47,Y 48,Y 49,Y 50,Y 51,Y 52,Y 53,Y 54,Y 55,Y 56,Y 57,Y 58,Y 59,Y 60,Y 61,Y 62,Y 63,Y 64,Y 65,Y 66,Y 67,Y 68,Y 69,Y 70,Y 71,Y 72,Y 73,Y 74,Y 75,Y 76,Y 77,Y 78,Y 79,Y 80,Y 81,Y 82,.bool false,x84,.agg #[.int .i64 r.kind,.int .i64 r.fr,.int .i64 r.en,.int .i64 r.at_,.string r.name,.slice r.A r.n r.cap],x86,x87,x88,x89,x90,x91,.bool false,Y 93,Y 94,Y 95,Y 96,Y 97,Y 98,Y 99,Y 100,Y 101,Y 102,Y 103,Y 104,Y 105,Y 106,Y 107,Y 108,Y 109,Y 110,Y 111,Y 112,Y 113,Y 114,Y 115,Y 116,Y 117,Y 118,Y 119,Y 120,Y 121,Y 122,Y 123,Y 124,Y 125,Y 126,Y 127,Y 128,Y 129,Y 130,Y 131,Y 132,Y 133,Y 134,Y 135,Y 136,Y 137,Y 138,Y 139,Y 140,Y 141,Y 142],defers:=[] }) (fun x84 x86 x87 x88 x89 x90 x91 w hb hHeld=>?_) (fun HC=>?_)
   ·
     (try dsimp only)
     refine zTk 22 (hk:=by as_aux_lemma=>kernel_rfl) (h:=?_)
     refine zRd 23 (hr:=by as_aux_lemma=>kernel_rfl) (h:=fun KK hKK=>?_)
     go_simp
     refine zKK hKK HKP fun hHeld2=>?_;clear hKK KK hHeld;rename _=>hHeld
     refine zTk 24 (hk:=by as_aux_lemma=>kernel_rfl) (h:=?_)
     refine zRd 25 (hr:=by as_aux_lemma=>kernel_rfl) (h:=fun KK hKK=>?_)
     go_simp
     (refine(mSaid (.mk 32 0 0 0 [108,101,110] [xT]) _ _ (qmp (rs:=[r]) (l:=[xT]) (by repeat (first | assumption | exact heap_alloc_new _ _ | (refine qG ?_;simp;done) | apply qb | (refine qg ?_ (by assumption)))) (by simp[RN.cells]) ⟨((zb HXM1)),trivial⟩ 32 ⟨#[108,101,110]⟩ 1 1 rfl)).mono ?_;rintro e w29 ⟨⟨r29,rfl,hm29⟩,hb29⟩;unfold RN.val)
     go_simp
     refine zKK hKK HKP fun hHeld2=>?_;clear hKK KK hHeld;rename _=>hHeld
     refine zRd 26 (hr:=by as_aux_lemma=>kernel_rfl) (h:=fun KK hKK=>?_)
     go_simp
     (refine((zb HL8) r29 (hm29.after (Nat.le_refl _) (by repeat (first | exact zR _ | assumption | apply zA | apply zD | refine zT ?_ (by assumption))))).mono ?_;rintro e w30 ⟨rfl,hb30⟩)
     go_simp
     refine zKK hKK HKP fun hHeld2=>?_;clear hKK KK hHeld;rename _=>hHeld
     refine zTk 27 (hk:=by as_aux_lemma=>kernel_rfl) (h:=?_)
     refine zTk 28 (hk:=by as_aux_lemma=>kernel_rfl) (h:=?_)
     refine zTk 29 (hk:=by as_aux_lemma=>kernel_rfl) (h:=?_)
     refine zTk 31 (hk:=by as_aux_lemma=>kernel_rfl) (h:=?_)
     refine zTk 34 (hk:=by as_aux_lemma=>kernel_rfl) (h:=?_)
     refine zGen (fun Y=>{ tmps:=#[.bool false,.pointer (some ⟨wA.heap.size,0,none⟩),.pointer (some ⟨wA.heap.size+1,0,none⟩),.pointer (some ⟨wA.heap.size+1+1,0,none⟩),.pointer (some ⟨g4+1,0,none⟩),.pointer (some ⟨g4+1+1,0,none⟩),undef,undef,Y 8,Y 9,Y 10,Y 11,Y 12,Y 13,Y 14,Y 15,Y 16,Y 17,Y 18,Y 19,Y 20,Y 21,Y 22,Y 23,Y 24,Y 25,Y 26,Y 27,Y 28,Y 29,Y 30,Y 31,Y 32,Y 33,Y 34,Y 35,Y 36,Y 37,Y 38,Y 39,Y 40,Y 41,Y 42,Y 43,Y 44,Y 45,Y 46,Y 47,Y 48,Y 49,Y 50,Y 51,Y 52,Y 53,Y 54,Y 55,Y 56,Y 57,Y 58,Y 59,Y 60,Y 61,Y 62,Y 63,Y 64,Y 65,Y 66,Y 67,Y 68,Y 69,Y 70,Y 71,Y 72,Y 73,Y 74,Y 75,Y 76,Y 77,Y 78,Y 79,Y 80,Y 81,Y 82,Y 83,Y 84,Y 85,Y 86,Y 87,Y 88,Y 89,Y 90,Y 91,Y 92,Y 93,Y 94,Y 95,Y 96,Y 97,Y 98,Y 99,.bool false,Y 101,.agg #[.int .i64 r.kind,.int .i64 r.fr,.int .i64 r.en,.int .i64 r.at_,.string r.name,.slice r.A r.n r.cap],Y 103,Y 104,.agg #[.int .i64 r.kind,.int .i64 r.fr,.int .i64 r.en,.int .i64 r.at_,.string r.name,.slice r.A r.n r.cap],Y 106,Y 107,Y 108,Y 109,Y 110,Y 111,Y 112,Y 113,Y 114,Y 115,Y 116,Y 117,Y 118,Y 119,Y 120,Y 121,Y 122,Y 123,Y 124,Y 125,Y 126,Y 127,Y 128,Y 129,Y 130,Y 131,Y 132,Y 133,Y 134,Y 135,Y 136,Y 137,Y 138,Y 139,Y 140,Y 141,Y 142],defers:=[] }) (fun Y=>?_)
     (try dsimp only)
     refine zJoin8 (W0:=W1) 0 #[true,true,true,true,true,true,true,true,true,true,true,true,true,true,true,true,true,true,true,true,true,true,true,true,true,true,true,true,true,true,true,true,true,true,true,true,true,true,true,true,true] (fun x101 x103 x104 x106 x107 x108 x109 x110=>{ tmps:=#[.bool false,.pointer (some ⟨wA.heap.size,0,none⟩),.pointer (some ⟨wA.heap.size+1,0,none⟩),.pointer (some ⟨wA.heap.size+1+1,0,none⟩),.pointer (some ⟨g4+1,0,none⟩),.pointer (some ⟨g4+1+1,0,none⟩),undef,undef,Y 8,Y 9,Y 10,Y 11,Y 12,Y 13,Y 14,Y 15,Y 16,Y 17,Y 18,Y 19,Y 20,Y 21,Y 22,Y 23,Y 24,Y 25,Y 26,Y 27,Y 28,Y 29,Y 30,Y 31,Y 32,Y 33,Y 34,Y 35,Y 36,Y 37,Y 38,Y 39,Y 40,Y 41,Y 42,Y 43,Y 44,Y 45,Y 46,Y 47,Y 48,Y 49,Y 50,Y 51,Y 52,Y 53,Y 54,Y 55,Y 56,Y 57,Y 58,Y 59,Y 60,Y 61,Y 62,Y 63,Y 64,Y 65,Y 66,Y 67,Y 68,Y 69,Y 70,Y 71,Y 72,Y 73,Y 74,Y 75,Y 76,Y 77,Y 78,Y 79,Y 80,Y 81,Y 82,Y 83,Y 84,Y 85,Y 86,Y 87,Y 88,Y 89,Y 90,Y 91,Y 92,Y 93,Y 94,Y 95,Y 96,Y 97,Y 98,Y 99,.bool false,x101,.agg #[.int .i64 r.kind,.int .i64 r.fr,.int .i64 r.en,.int .i64 r.at_,.string r.name,.slice r.A r.n r.cap],x103,x104,.agg #[.int .i64 r.kind,.int .i64 r.fr,.int .i64 r.en,.int .i64 r.at_,.string r.name,.slice r.A r.n r.cap],x106,x107,x108,x109,x110,.bool false,Y 112,Y 113,Y 114,Y 115,Y 116,Y 117,Y 118,Y 119,Y 120,Y 121,Y 122,Y 123,Y 124,Y 125,Y 126,Y 127,Y 128,Y 129,Y 130,Y 131,Y 132,Y 133,Y 134,Y 135,Y 136,Y 137,Y 138,Y 139,Y 140,Y 141,Y 142],defers:=[] }) (fun x101 x103 x104 x106 x107 x108 x109 x110 w hb hHeld=>?_) (fun HC=>?_)
     ·
       (try dsimp only)
       refine wpAnyH_done (by kernel_rfl) ?_ _
       go_wp2_with fail
       go_meet
       case rel=>exact⟨rfl,hHeld.1⟩
     ·
       refine wpAnyH_ready (rs:=[30,32,35]) (by as_aux_lemma=>kernel_rfl) (by simp) ?_
       refine AllReadyH.cons (by rfl) (fun KK hKK=>?_) (AllReadyH.cons (by rfl) (fun KK hKK=>?_) (AllReadyH.cons (by rfl) (fun KK hKK=>?_) AllReadyH.nil))
       go_simp
       (refine(qrC ⟨#[102]⟩ _).mono ?_;rintro e w31 ⟨⟨r31,rfl,hm31⟩,hb31⟩;unfold RN.val)
       go_simp
       refine zKK hKK HKP fun hHeld2=>?_;clear hKK KK hHeld;rename _=>hHeld
       refine wpAnyH_ready (rs:=[32,35]) (by as_aux_lemma=>kernel_rfl) (by simp) ?_
       refine AllReadyH.cons (by rfl) (fun KK hKK=>?_) (AllReadyH.cons (by rfl) (fun KK hKK=>?_) AllReadyH.nil)
       go_simp
       refine zKK hKK HKP fun hHeld2=>?_;clear hKK KK hHeld;rename _=>hHeld
       refine wpAnyH_ready (rs:=[33,35]) (by as_aux_lemma=>kernel_rfl) (by simp) ?_
       refine AllReadyH.cons (by rfl) (fun KK hKK=>?_) (AllReadyH.cons (by rfl) (fun KK hKK=>?_) AllReadyH.nil)
       go_simp
       (refine(mCall (quS [102]) [xT] r31 _ 1 _ (hm31.after (Nat.le_refl _) (by repeat (first | exact zR _ | assumption | apply zA | apply zD | refine zT ?_ (by assumption)))) (by decide) (kids1 (r:=r) (by repeat (first | assumption | exact heap_alloc_new _ _ | (refine qG ?_;simp;done) | apply qb | (refine qg ?_ (by assumption)))) ((zb HXM1))) (by intro h;cases h)).mono ?_;rintro e w32 ⟨⟨r32,rfl,hm32⟩,hb32⟩;unfold RN.val)
       go_simp
       refine zKK hKK HKP fun hHeld2=>?_;clear hKK KK hHeld;rename _=>hHeld
       refine zRd 35 (hr:=by as_aux_lemma=>kernel_rfl) (h:=fun KK hKK=>?_)
       go_simp
       refine zKK hKK HKP fun hHeld2=>?_;clear hKK KK hHeld;rename _=>hHeld
       refine zRd 36 (hr:=by as_aux_lemma=>kernel_rfl) (h:=fun KK hKK=>?_)
       go_simp
       (refine(mCall (quI (quS [102]) [xT]) [xT] r32 _ 1 _ (hm32.after (Nat.le_refl _) (by repeat (first | exact zR _ | assumption | apply zA | apply zD | refine zT ?_ (by assumption)))) (by decide) (kids1 (r:=r) (by repeat (first | assumption | exact heap_alloc_new _ _ | (refine qG ?_;simp;done) | apply qb | (refine qg ?_ (by assumption)))) ((zb HXM1))) (by intro h;cases h)).mono ?_;rintro e w33 ⟨⟨r33,rfl,hm33⟩,hb33⟩;unfold RN.val)
       go_simp
       refine zKK hKK HKP fun hHeld2=>?_;clear hKK KK hHeld;rename _=>hHeld
       refine zRd 37 (hr:=by as_aux_lemma=>kernel_rfl) (h:=fun KK hKK=>?_)
       go_simp
       (refine(mSaid (quI (quI (quS [102]) [xT]) [xT]) r33 _ (hm33.after (Nat.le_refl _) (by repeat (first | exact zR _ | assumption | apply zA | apply zD | refine zT ?_ (by assumption))))).mono ?_;rintro e w34 ⟨⟨r34,rfl,hm34⟩,hb34⟩;unfold RN.val)
       go_simp
       refine zKK hKK HKP fun hHeld2=>?_;clear hKK KK hHeld;rename _=>hHeld
       refine zRd 38 (hr:=by as_aux_lemma=>kernel_rfl) (h:=fun KK hKK=>?_)
       go_simp
       (refine((zb HL9) r34 (hm34.after (Nat.le_refl _) (by repeat (first | exact zR _ | assumption | apply zA | apply zD | refine zT ?_ (by assumption))))).mono ?_;rintro e w35 ⟨rfl,hb35⟩)
       go_simp
       refine zKK hKK HKP fun hHeld2=>?_;clear hKK KK hHeld;rename _=>hHeld
       refine zTk 39 (hk:=by as_aux_lemma=>kernel_rfl) (h:=?_)
       refine zTk 40 (hk:=by as_aux_lemma=>kernel_rfl) (h:=?_)
       exact zL (HC.out _ _ _ _ _ _ _ _ _ (by repeat (first | exact zR _ | assumption | apply zA | apply zD | refine zT ?_ (by assumption))) (by assumption))
       go_simp
       refine zKK hKK HKP fun hHeld2=>?_;clear hKK KK hHeld;rename _=>hHeld
       refine zRd 33 (hr:=by as_aux_lemma=>kernel_rfl) (h:=fun KK hKK=>?_)
       go_simp
       (refine(mCall (quS [102]) [xT] r31 _ 1 _ (hm31.after (Nat.le_refl _) (by repeat (first | exact zR _ | assumption | apply zA | apply zD | refine zT ?_ (by assumption)))) (by decide) (kids1 (r:=r) (by repeat (first | assumption | exact heap_alloc_new _ _ | (refine qG ?_;simp;done) | apply qb | (refine qg ?_ (by assumption)))) ((zb HXM1))) (by intro h;cases h)).mono ?_;rintro e w32 ⟨⟨r32,rfl,hm32⟩,hb32⟩;unfold RN.val)
       go_simp
       refine zKK hKK HKP fun hHeld2=>?_;clear hKK KK hHeld;rename _=>hHeld
       refine zRd 36 (hr:=by as_aux_lemma=>kernel_rfl) (h:=fun KK hKK=>?_)
       go_simp
       (refine(mCall (quI (quS [102]) [xT]) [xT] r32 _ 1 _ (hm32.after (Nat.le_refl _) (by repeat (first | exact zR _ | assumption | apply zA | apply zD | refine zT ?_ (by assumption)))) (by decide) (kids1 (r:=r) (by repeat (first | assumption | exact heap_alloc_new _ _ | (refine qG ?_;simp;done) | apply qb | (refine qg ?_ (by assumption)))) ((zb HXM1))) (by intro h;cases h)).mono ?_;rintro e w33 ⟨⟨r33,rfl,hm33⟩,hb33⟩;unfold RN.val)
       go_simp
       refine zKK hKK HKP fun hHeld2=>?_;clear hKK KK hHeld;rename _=>hHeld
       refine zRd 37 (hr:=by as_aux_lemma=>kernel_rfl) (h:=fun KK hKK=>?_)
       go_simp
       (refine(mSaid (quI (quI (quS [102]) [xT]) [xT]) r33 _ (hm33.after (Nat.le_refl _) (by repeat (first | exact zR _ | assumption | apply zA | apply zD | refine zT ?_ (by assumption))))).mono ?_;rintro e w34 ⟨⟨r34,rfl,hm34⟩,hb34⟩;unfold RN.val)
       go_simp
       refine zKK hKK HKP fun hHeld2=>?_;clear hKK KK hHeld;rename _=>hHeld
       refine zRd 38 (hr:=by as_aux_lemma=>kernel_rfl) (h:=fun KK hKK=>?_)
       go_simp
       (refine((zb HL9) r34 (hm34.after (Nat.le_refl _) (by repeat (first | exact zR _ | assumption | apply zA | apply zD | refine zT ?_ (by assumption))))).mono ?_;rintro e w35 ⟨rfl,hb35⟩)
       go_simp
       refine zKK hKK HKP fun hHeld2=>?_;clear hKK KK hHeld;rename _=>hHeld
       refine zTk 39 (hk:=by as_aux_lemma=>kernel_rfl) (h:=?_)
       refine zTk 40 (hk:=by as_aux_lemma=>kernel_rfl) (h:=?_)
       exact zL (HC.out _ _ _ _ _ _ _ _ _ (by repeat (first | exact zR _ | assumption | apply zA | apply zD | refine zT ?_ (by assumption))) (by assumption))
       go_simp
       refine zKK hKK HKP fun hHeld2=>?_;clear hKK KK hHeld;rename _=>hHeld
       refine zRd 32 (hr:=by as_aux_lemma=>kernel_rfl) (h:=fun KK hKK=>?_)
       go_simp
       refine zKK hKK HKP fun hHeld2=>?_;clear hKK KK hHeld;rename _=>hHeld
       refine zRd 33 (hr:=by as_aux_lemma=>kernel_rfl) (h:=fun KK hKK=>?_)
       go_simp
       (refine(mCall (quS [102]) [xT] r31 _ 1 _ (hm31.after (Nat.le_refl _) (by repeat (first | exact zR _ | assumption | apply zA | apply zD | refine zT ?_ (by assumption)))) (by decide) (kids1 (r:=r) (by repeat (first | assumption | exact heap_alloc_new _ _ | (refine qG ?_;simp;done) | apply qb | (refine qg ?_ (by assumption)))) ((zb HXM1))) (by intro h;cases h)).mono ?_;rintro e w32 ⟨⟨r32,rfl,hm32⟩,hb32⟩;unfold RN.val)
       go_simp
       refine zKK hKK HKP fun hHeld2=>?_;clear hKK KK hHeld;rename _=>hHeld
       refine zRd 36 (hr:=by as_aux_lemma=>kernel_rfl) (h:=fun KK hKK=>?_)
       go_simp
       (refine(mCall (quI (quS [102]) [xT]) [xT] r32 _ 1 _ (hm32.after (Nat.le_refl _) (by repeat (first | exact zR _ | assumption | apply zA | apply zD | refine zT ?_ (by assumption)))) (by decide) (kids1 (r:=r) (by repeat (first | assumption | exact heap_alloc_new _ _ | (refine qG ?_;simp;done) | apply qb | (refine qg ?_ (by assumption)))) ((zb HXM1))) (by intro h;cases h)).mono ?_;rintro e w33 ⟨⟨r33,rfl,hm33⟩,hb33⟩;unfold RN.val)
       go_simp
       refine zKK hKK HKP fun hHeld2=>?_;clear hKK KK hHeld;rename _=>hHeld
       refine zRd 37 (hr:=by as_aux_lemma=>kernel_rfl) (h:=fun KK hKK=>?_)
       go_simp
       (refine(mSaid (quI (quI (quS [102]) [xT]) [xT]) r33 _ (hm33.after (Nat.le_refl _) (by repeat (first | exact zR _ | assumption | apply zA | apply zD | refine zT ?_ (by assumption))))).mono ?_;rintro e w34 ⟨⟨r34,rfl,hm34⟩,hb34⟩;unfold RN.val)
       go_simp
       refine zKK hKK HKP fun hHeld2=>?_;clear hKK KK hHeld;rename _=>hHeld
       refine zRd 38 (hr:=by as_aux_lemma=>kernel_rfl) (h:=fun KK hKK=>?_)
       go_simp
       (refine((zb HL9) r34 (hm34.after (Nat.le_refl _) (by repeat (first | exact zR _ | assumption | apply zA | apply zD | refine zT ?_ (by assumption))))).mono ?_;rintro e w35 ⟨rfl,hb35⟩)
       go_simp
       refine zKK hKK HKP fun hHeld2=>?_;clear hKK KK hHeld;rename _=>hHeld
       refine zTk 39 (hk:=by as_aux_lemma=>kernel_rfl) (h:=?_)
       refine zTk 40 (hk:=by as_aux_lemma=>kernel_rfl) (h:=?_)
       exact zL (HC.out _ _ _ _ _ _ _ _ _ (by repeat (first | exact zR _ | assumption | apply zA | apply zD | refine zT ?_ (by assumption))) (by assumption))
       go_simp
       refine zKK hKK HKP fun hHeld2=>?_;clear hKK KK hHeld;rename _=>hHeld
       refine wpAnyH_ready (rs:=[30,35]) (by as_aux_lemma=>kernel_rfl) (by simp) ?_
       refine AllReadyH.cons (by rfl) (fun KK hKK=>?_) (AllReadyH.cons (by rfl) (fun KK hKK=>?_) AllReadyH.nil)
       go_simp
       (refine(qrC ⟨#[102]⟩ _).mono ?_;rintro e w31 ⟨⟨r31,rfl,hm31⟩,hb31⟩;unfold RN.val)
       go_simp
       refine zKK hKK HKP fun hHeld2=>?_;clear hKK KK hHeld;rename _=>hHeld
       refine wpAnyH_ready (rs:=[33,35]) (by as_aux_lemma=>kernel_rfl) (by simp) ?_
       refine AllReadyH.cons (by rfl) (fun KK hKK=>?_) (AllReadyH.cons (by rfl) (fun KK hKK=>?_) AllReadyH.nil)
       go_simp
       (refine(mCall (quS [102]) [xT] r31 _ 1 _ (hm31.after (Nat.le_refl _) (by repeat (first | exact zR _ | assumption | apply zA | apply zD | refine zT ?_ (by assumption)))) (by decide) (kids1 (r:=r) (by repeat (first | assumption | exact heap_alloc_new _ _ | (refine qG ?_;simp;done) | apply qb | (refine qg ?_ (by assumption)))) ((zb HXM1))) (by intro h;cases h)).mono ?_;rintro e w32 ⟨⟨r32,rfl,hm32⟩,hb32⟩;unfold RN.val)
       go_simp
       refine zKK hKK HKP fun hHeld2=>?_;clear hKK KK hHeld;rename _=>hHeld
       refine zRd 35 (hr:=by as_aux_lemma=>kernel_rfl) (h:=fun KK hKK=>?_)
       go_simp
       refine zKK hKK HKP fun hHeld2=>?_;clear hKK KK hHeld;rename _=>hHeld
       refine zRd 36 (hr:=by as_aux_lemma=>kernel_rfl) (h:=fun KK hKK=>?_)
       go_simp
       (refine(mCall (quI (quS [102]) [xT]) [xT] r32 _ 1 _ (hm32.after (Nat.le_refl _) (by repeat (first | exact zR _ | assumption | apply zA | apply zD | refine zT ?_ (by assumption)))) (by decide) (kids1 (r:=r) (by repeat (first | assumption | exact heap_alloc_new _ _ | (refine qG ?_;simp;done) | apply qb | (refine qg ?_ (by assumption)))) ((zb HXM1))) (by intro h;cases h)).mono ?_;rintro e w33 ⟨⟨r33,rfl,hm33⟩,hb33⟩;unfold RN.val)
       go_simp
       refine zKK hKK HKP fun hHeld2=>?_;clear hKK KK hHeld;rename _=>hHeld
       refine zRd 37 (hr:=by as_aux_lemma=>kernel_rfl) (h:=fun KK hKK=>?_)
       go_simp
       (refine(mSaid (quI (quI (quS [102]) [xT]) [xT]) r33 _ (hm33.after (Nat.le_refl _) (by repeat (first | exact zR _ | assumption | apply zA | apply zD | refine zT ?_ (by assumption))))).mono ?_;rintro e w34 ⟨⟨r34,rfl,hm34⟩,hb34⟩;unfold RN.val)
       go_simp
       refine zKK hKK HKP fun hHeld2=>?_;clear hKK KK hHeld;rename _=>hHeld
       refine zRd 38 (hr:=by as_aux_lemma=>kernel_rfl) (h:=fun KK hKK=>?_)
       go_simp
       (refine((zb HL9) r34 (hm34.after (Nat.le_refl _) (by repeat (first | exact zR _ | assumption | apply zA | apply zD | refine zT ?_ (by assumption))))).mono ?_;rintro e w35 ⟨rfl,hb35⟩)
       go_simp
       refine zKK hKK HKP fun hHeld2=>?_;clear hKK KK hHeld;rename _=>hHeld
       refine zTk 39 (hk:=by as_aux_lemma=>kernel_rfl) (h:=?_)
       refine zTk 40 (hk:=by as_aux_lemma=>kernel_rfl) (h:=?_)
       exact zL (HC.out _ _ _ _ _ _ _ _ _ (by repeat (first | exact zR _ | assumption | apply zA | apply zD | refine zT ?_ (by assumption))) (by assumption))
       go_simp
       refine zKK hKK HKP fun hHeld2=>?_;clear hKK KK hHeld;rename _=>hHeld
       refine zRd 33 (hr:=by as_aux_lemma=>kernel_rfl) (h:=fun KK hKK=>?_)
       go_simp
       (refine(mCall (quS [102]) [xT] r31 _ 1 _ (hm31.after (Nat.le_refl _) (by repeat (first | exact zR _ | assumption | apply zA | apply zD | refine zT ?_ (by assumption)))) (by decide) (kids1 (r:=r) (by repeat (first | assumption | exact heap_alloc_new _ _ | (refine qG ?_;simp;done) | apply qb | (refine qg ?_ (by assumption)))) ((zb HXM1))) (by intro h;cases h)).mono ?_;rintro e w32 ⟨⟨r32,rfl,hm32⟩,hb32⟩;unfold RN.val)
       go_simp
       refine zKK hKK HKP fun hHeld2=>?_;clear hKK KK hHeld;rename _=>hHeld
       refine zRd 36 (hr:=by as_aux_lemma=>kernel_rfl) (h:=fun KK hKK=>?_)
       go_simp
       (refine(mCall (quI (quS [102]) [xT]) [xT] r32 _ 1 _ (hm32.after (Nat.le_refl _) (by repeat (first | exact zR _ | assumption | apply zA | apply zD | refine zT ?_ (by assumption)))) (by decide) (kids1 (r:=r) (by repeat (first | assumption | exact heap_alloc_new _ _ | (refine qG ?_;simp;done) | apply qb | (refine qg ?_ (by assumption)))) ((zb HXM1))) (by intro h;cases h)).mono ?_;rintro e w33 ⟨⟨r33,rfl,hm33⟩,hb33⟩;unfold RN.val)
       go_simp
       refine zKK hKK HKP fun hHeld2=>?_;clear hKK KK hHeld;rename _=>hHeld
       refine zRd 37 (hr:=by as_aux_lemma=>kernel_rfl) (h:=fun KK hKK=>?_)
       go_simp
       (refine(mSaid (quI (quI (quS [102]) [xT]) [xT]) r33 _ (hm33.after (Nat.le_refl _) (by repeat (first | exact zR _ | assumption | apply zA | apply zD | refine zT ?_ (by assumption))))).mono ?_;rintro e w34 ⟨⟨r34,rfl,hm34⟩,hb34⟩;unfold RN.val)
       go_simp
       refine zKK hKK HKP fun hHeld2=>?_;clear hKK KK hHeld;rename _=>hHeld
       refine zRd 38 (hr:=by as_aux_lemma=>kernel_rfl) (h:=fun KK hKK=>?_)
       go_simp
       (refine((zb HL9) r34 (hm34.after (Nat.le_refl _) (by repeat (first | exact zR _ | assumption | apply zA | apply zD | refine zT ?_ (by assumption))))).mono ?_;rintro e w35 ⟨rfl,hb35⟩)
       go_simp
       refine zKK hKK HKP fun hHeld2=>?_;clear hKK KK hHeld;rename _=>hHeld
       refine zTk 39 (hk:=by as_aux_lemma=>kernel_rfl) (h:=?_)
       refine zTk 40 (hk:=by as_aux_lemma=>kernel_rfl) (h:=?_)
       exact zL (HC.out _ _ _ _ _ _ _ _ _ (by repeat (first | exact zR _ | assumption | apply zA | apply zD | refine zT ?_ (by assumption))) (by assumption))
       go_simp
       refine zKK hKK HKP fun hHeld2=>?_;clear hKK KK hHeld;rename _=>hHeld
       refine zRd 30 (hr:=by as_aux_lemma=>kernel_rfl) (h:=fun KK hKK=>?_)
       go_simp
       (refine(qrC ⟨#[102]⟩ _).mono ?_;rintro e w31 ⟨⟨r31,rfl,hm31⟩,hb31⟩;unfold RN.val)
       go_simp
       refine zKK hKK HKP fun hHeld2=>?_;clear hKK KK hHeld;rename _=>hHeld
       refine zRd 33 (hr:=by as_aux_lemma=>kernel_rfl) (h:=fun KK hKK=>?_)
       go_simp
       (refine(mCall (quS [102]) [xT] r31 _ 1 _ (hm31.after (Nat.le_refl _) (by repeat (first | exact zR _ | assumption | apply zA | apply zD | refine zT ?_ (by assumption)))) (by decide) (kids1 (r:=r) (by repeat (first | assumption | exact heap_alloc_new _ _ | (refine qG ?_;simp;done) | apply qb | (refine qg ?_ (by assumption)))) ((zb HXM1))) (by intro h;cases h)).mono ?_;rintro e w32 ⟨⟨r32,rfl,hm32⟩,hb32⟩;unfold RN.val)
       go_simp
       refine zKK hKK HKP fun hHeld2=>?_;clear hKK KK hHeld;rename _=>hHeld
       refine zRd 36 (hr:=by as_aux_lemma=>kernel_rfl) (h:=fun KK hKK=>?_)
       go_simp
       (refine(mCall (quI (quS [102]) [xT]) [xT] r32 _ 1 _ (hm32.after (Nat.le_refl _) (by repeat (first | exact zR _ | assumption | apply zA | apply zD | refine zT ?_ (by assumption)))) (by decide) (kids1 (r:=r) (by repeat (first | assumption | exact heap_alloc_new _ _ | (refine qG ?_;simp;done) | apply qb | (refine qg ?_ (by assumption)))) ((zb HXM1))) (by intro h;cases h)).mono ?_;rintro e w33 ⟨⟨r33,rfl,hm33⟩,hb33⟩;unfold RN.val)
       go_simp
       refine zKK hKK HKP fun hHeld2=>?_;clear hKK KK hHeld;rename _=>hHeld
       refine zRd 37 (hr:=by as_aux_lemma=>kernel_rfl) (h:=fun KK hKK=>?_)
       go_simp
       (refine(mSaid (quI (quI (quS [102]) [xT]) [xT]) r33 _ (hm33.after (Nat.le_refl _) (by repeat (first | exact zR _ | assumption | apply zA | apply zD | refine zT ?_ (by assumption))))).mono ?_;rintro e w34 ⟨⟨r34,rfl,hm34⟩,hb34⟩;unfold RN.val)
       go_simp
       refine zKK hKK HKP fun hHeld2=>?_;clear hKK KK hHeld;rename _=>hHeld
       refine zRd 38 (hr:=by as_aux_lemma=>kernel_rfl) (h:=fun KK hKK=>?_)
       go_simp
       (refine((zb HL9) r34 (hm34.after (Nat.le_refl _) (by repeat (first | exact zR _ | assumption | apply zA | apply zD | refine zT ?_ (by assumption))))).mono ?_;rintro e w35 ⟨rfl,hb35⟩)
       go_simp
       refine zKK hKK HKP fun hHeld2=>?_;clear hKK KK hHeld;rename _=>hHeld
       refine zTk 39 (hk:=by as_aux_lemma=>kernel_rfl) (h:=?_)
       refine zTk 40 (hk:=by as_aux_lemma=>kernel_rfl) (h:=?_)
       exact zL (HC.out _ _ _ _ _ _ _ _ _ (by repeat (first | exact zR _ | assumption | apply zA | apply zD | refine zT ?_ (by assumption))) (by assumption))
       go_simp
       refine zKK hKK HKP fun hHeld2=>?_;clear hKK KK hHeld;rename _=>hHeld
       refine wpAnyH_ready (rs:=[30,32]) (by as_aux_lemma=>kernel_rfl) (by simp) ?_
       refine AllReadyH.cons (by rfl) (fun KK hKK=>?_) (AllReadyH.cons (by rfl) (fun KK hKK=>?_) AllReadyH.nil)
       go_simp
       (refine(qrC ⟨#[102]⟩ _).mono ?_;rintro e w31 ⟨⟨r31,rfl,hm31⟩,hb31⟩;unfold RN.val)
       go_simp
       refine zKK hKK HKP fun hHeld2=>?_;clear hKK KK hHeld;rename _=>hHeld
       refine zRd 32 (hr:=by as_aux_lemma=>kernel_rfl) (h:=fun KK hKK=>?_)
       go_simp
       refine zKK hKK HKP fun hHeld2=>?_;clear hKK KK hHeld;rename _=>hHeld
       refine zRd 33 (hr:=by as_aux_lemma=>kernel_rfl) (h:=fun KK hKK=>?_)
       go_simp
       (refine(mCall (quS [102]) [xT] r31 _ 1 _ (hm31.after (Nat.le_refl _) (by repeat (first | exact zR _ | assumption | apply zA | apply zD | refine zT ?_ (by assumption)))) (by decide) (kids1 (r:=r) (by repeat (first | assumption | exact heap_alloc_new _ _ | (refine qG ?_;simp;done) | apply qb | (refine qg ?_ (by assumption)))) ((zb HXM1))) (by intro h;cases h)).mono ?_;rintro e w32 ⟨⟨r32,rfl,hm32⟩,hb32⟩;unfold RN.val)
       go_simp
       refine zKK hKK HKP fun hHeld2=>?_;clear hKK KK hHeld;rename _=>hHeld
       refine zRd 36 (hr:=by as_aux_lemma=>kernel_rfl) (h:=fun KK hKK=>?_)
       go_simp
       (refine(mCall (quI (quS [102]) [xT]) [xT] r32 _ 1 _ (hm32.after (Nat.le_refl _) (by repeat (first | exact zR _ | assumption | apply zA | apply zD | refine zT ?_ (by assumption)))) (by decide) (kids1 (r:=r) (by repeat (first | assumption | exact heap_alloc_new _ _ | (refine qG ?_;simp;done) | apply qb | (refine qg ?_ (by assumption)))) ((zb HXM1))) (by intro h;cases h)).mono ?_;rintro e w33 ⟨⟨r33,rfl,hm33⟩,hb33⟩;unfold RN.val)
       go_simp
       refine zKK hKK HKP fun hHeld2=>?_;clear hKK KK hHeld;rename _=>hHeld
       refine zRd 37 (hr:=by as_aux_lemma=>kernel_rfl) (h:=fun KK hKK=>?_)
       go_simp
       (refine(mSaid (quI (quI (quS [102]) [xT]) [xT]) r33 _ (hm33.after (Nat.le_refl _) (by repeat (first | exact zR _ | assumption | apply zA | apply zD | refine zT ?_ (by assumption))))).mono ?_;rintro e w34 ⟨⟨r34,rfl,hm34⟩,hb34⟩;unfold RN.val)
       go_simp
       refine zKK hKK HKP fun hHeld2=>?_;clear hKK KK hHeld;rename _=>hHeld
       refine zRd 38 (hr:=by as_aux_lemma=>kernel_rfl) (h:=fun KK hKK=>?_)
       go_simp
       (refine((zb HL9) r34 (hm34.after (Nat.le_refl _) (by repeat (first | exact zR _ | assumption | apply zA | apply zD | refine zT ?_ (by assumption))))).mono ?_;rintro e w35 ⟨rfl,hb35⟩)
       go_simp
       refine zKK hKK HKP fun hHeld2=>?_;clear hKK KK hHeld;rename _=>hHeld
       refine zTk 39 (hk:=by as_aux_lemma=>kernel_rfl) (h:=?_)
       refine zTk 40 (hk:=by as_aux_lemma=>kernel_rfl) (h:=?_)
       exact zL (HC.out _ _ _ _ _ _ _ _ _ (by repeat (first | exact zR _ | assumption | apply zA | apply zD | refine zT ?_ (by assumption))) (by assumption))
       go_simp
       refine zKK hKK HKP fun hHeld2=>?_;clear hKK KK hHeld;rename _=>hHeld
       refine zRd 30 (hr:=by as_aux_lemma=>kernel_rfl) (h:=fun KK hKK=>?_)
       go_simp
       (refine(qrC ⟨#[102]⟩ _).mono ?_;rintro e w31 ⟨⟨r31,rfl,hm31⟩,hb31⟩;unfold RN.val)
       go_simp
       refine zKK hKK HKP fun hHeld2=>?_;clear hKK KK hHeld;rename _=>hHeld
       refine zRd 33 (hr:=by as_aux_lemma=>kernel_rfl) (h:=fun KK hKK=>?_)
       go_simp
       (refine(mCall (quS [102]) [xT] r31 _ 1 _ (hm31.after (Nat.le_refl _) (by repeat (first | exact zR _ | assumption | apply zA | apply zD | refine zT ?_ (by assumption)))) (by decide) (kids1 (r:=r) (by repeat (first | assumption | exact heap_alloc_new _ _ | (refine qG ?_;simp;done) | apply qb | (refine qg ?_ (by assumption)))) ((zb HXM1))) (by intro h;cases h)).mono ?_;rintro e w32 ⟨⟨r32,rfl,hm32⟩,hb32⟩;unfold RN.val)
       go_simp
       refine zKK hKK HKP fun hHeld2=>?_;clear hKK KK hHeld;rename _=>hHeld
       refine zRd 36 (hr:=by as_aux_lemma=>kernel_rfl) (h:=fun KK hKK=>?_)
       go_simp
       (refine(mCall (quI (quS [102]) [xT]) [xT] r32 _ 1 _ (hm32.after (Nat.le_refl _) (by repeat (first | exact zR _ | assumption | apply zA | apply zD | refine zT ?_ (by assumption)))) (by decide) (kids1 (r:=r) (by repeat (first | assumption | exact heap_alloc_new _ _ | (refine qG ?_;simp;done) | apply qb | (refine qg ?_ (by assumption)))) ((zb HXM1))) (by intro h;cases h)).mono ?_;rintro e w33 ⟨⟨r33,rfl,hm33⟩,hb33⟩;unfold RN.val)
       go_simp
       refine zKK hKK HKP fun hHeld2=>?_;clear hKK KK hHeld;rename _=>hHeld
       refine zRd 37 (hr:=by as_aux_lemma=>kernel_rfl) (h:=fun KK hKK=>?_)
       go_simp
       (refine(mSaid (quI (quI (quS [102]) [xT]) [xT]) r33 _ (hm33.after (Nat.le_refl _) (by repeat (first | exact zR _ | assumption | apply zA | apply zD | refine zT ?_ (by assumption))))).mono ?_;rintro e w34 ⟨⟨r34,rfl,hm34⟩,hb34⟩;unfold RN.val)
       go_simp
       refine zKK hKK HKP fun hHeld2=>?_;clear hKK KK hHeld;rename _=>hHeld
       refine zRd 38 (hr:=by as_aux_lemma=>kernel_rfl) (h:=fun KK hKK=>?_)
       go_simp
       (refine((zb HL9) r34 (hm34.after (Nat.le_refl _) (by repeat (first | exact zR _ | assumption | apply zA | apply zD | refine zT ?_ (by assumption))))).mono ?_;rintro e w35 ⟨rfl,hb35⟩)
       go_simp
       refine zKK hKK HKP fun hHeld2=>?_;clear hKK KK hHeld;rename _=>hHeld
       refine zTk 39 (hk:=by as_aux_lemma=>kernel_rfl) (h:=?_)
       refine zTk 40 (hk:=by as_aux_lemma=>kernel_rfl) (h:=?_)
       exact zL (HC.out _ _ _ _ _ _ _ _ _ (by repeat (first | exact zR _ | assumption | apply zA | apply zD | refine zT ?_ (by assumption))) (by assumption))
   ·
     refine wpAnyH_ready (rs:=[13,15]) (by as_aux_lemma=>kernel_rfl) (by simp) ?_
     refine AllReadyH.cons (by rfl) (fun KK hKK=>?_) (AllReadyH.cons (by rfl) (fun KK hKK=>?_) AllReadyH.nil)
     go_simp
     (refine(qrC ⟨#[102]⟩ _).mono ?_;rintro e w25 ⟨⟨r25,rfl,hm25⟩,hb25⟩;unfold RN.val)
     go_simp
     refine zKK hKK HKP fun hHeld2=>?_;clear hKK KK hHeld;rename _=>hHeld
     refine zRd 15 (hr:=by as_aux_lemma=>kernel_rfl) (h:=fun KK hKK=>?_)
     go_simp
     refine zKK hKK HKP fun hHeld2=>?_;clear hKK KK hHeld;rename _=>hHeld
     refine zRd 16 (hr:=by as_aux_lemma=>kernel_rfl) (h:=fun KK hKK=>?_)
     go_simp
     (refine(mCall (quS [102]) [xT] r25 _ 1 _ (hm25.after (Nat.le_refl _) (by repeat (first | exact zR _ | assumption | apply zA | apply zD | refine zT ?_ (by assumption)))) (by decide) (kids1 (r:=r) (by repeat (first | assumption | exact heap_alloc_new _ _ | (refine qG ?_;simp;done) | apply qb | (refine qg ?_ (by assumption)))) ((zb HXM1))) (by intro h;cases h)).mono ?_;rintro e w26 ⟨⟨r26,rfl,hm26⟩,hb26⟩;unfold RN.val)
     go_simp
     refine zKK hKK HKP fun hHeld2=>?_;clear hKK KK hHeld;rename _=>hHeld
     refine zRd 17 (hr:=by as_aux_lemma=>kernel_rfl) (h:=fun KK hKK=>?_)
     go_simp
     (refine(mSaid (quI (quS [102]) [xT]) r26 _ (hm26.after (Nat.le_refl _) (by repeat (first | exact zR _ | assumption | apply zA | apply zD | refine zT ?_ (by assumption))))).mono ?_;rintro e w27 ⟨⟨r27,rfl,hm27⟩,hb27⟩;unfold RN.val)
     go_simp
     refine zKK hKK HKP fun hHeld2=>?_;clear hKK KK hHeld;rename _=>hHeld
     refine zRd 18 (hr:=by as_aux_lemma=>kernel_rfl) (h:=fun KK hKK=>?_)
     go_simp
     (refine((zb HL7) r27 (hm27.after (Nat.le_refl _) (by repeat (first | exact zR _ | assumption | apply zA | apply zD | refine zT ?_ (by assumption))))).mono ?_;rintro e w28 ⟨rfl,hb28⟩)
     go_simp
     refine zKK hKK HKP fun hHeld2=>?_;clear hKK KK hHeld;rename _=>hHeld
     refine zTk 19 (hk:=by as_aux_lemma=>kernel_rfl) (h:=?_)
     refine zTk 20 (hk:=by as_aux_lemma=>kernel_rfl) (h:=?_)
     refine zTk 21 (hk:=by as_aux_lemma=>kernel_rfl) (h:=?_)
     exact zL (HC.out _ _ _ _ _ _ _ _ (by repeat (first | exact zR _ | assumption | apply zA | apply zD | refine zT ?_ (by assumption))) (by assumption))
     go_simp
     refine zKK hKK HKP fun hHeld2=>?_;clear hKK KK hHeld;rename _=>hHeld
     refine zRd 13 (hr:=by as_aux_lemma=>kernel_rfl) (h:=fun KK hKK=>?_)
     go_simp
     (refine(qrC ⟨#[102]⟩ _).mono ?_;rintro e w25 ⟨⟨r25,rfl,hm25⟩,hb25⟩;unfold RN.val)
     go_simp
     refine zKK hKK HKP fun hHeld2=>?_;clear hKK KK hHeld;rename _=>hHeld
     refine zRd 16 (hr:=by as_aux_lemma=>kernel_rfl) (h:=fun KK hKK=>?_)
     go_simp
     (refine(mCall (quS [102]) [xT] r25 _ 1 _ (hm25.after (Nat.le_refl _) (by repeat (first | exact zR _ | assumption | apply zA | apply zD | refine zT ?_ (by assumption)))) (by decide) (kids1 (r:=r) (by repeat (first | assumption | exact heap_alloc_new _ _ | (refine qG ?_;simp;done) | apply qb | (refine qg ?_ (by assumption)))) ((zb HXM1))) (by intro h;cases h)).mono ?_;rintro e w26 ⟨⟨r26,rfl,hm26⟩,hb26⟩;unfold RN.val)
     go_simp
     refine zKK hKK HKP fun hHeld2=>?_;clear hKK KK hHeld;rename _=>hHeld
     refine zRd 17 (hr:=by as_aux_lemma=>kernel_rfl) (h:=fun KK hKK=>?_)
     go_simp
     (refine(mSaid (quI (quS [102]) [xT]) r26 _ (hm26.after (Nat.le_refl _) (by repeat (first | exact zR _ | assumption | apply zA | apply zD | refine zT ?_ (by assumption))))).mono ?_;rintro e w27 ⟨⟨r27,rfl,hm27⟩,hb27⟩;unfold RN.val)
     go_simp
     refine zKK hKK HKP fun hHeld2=>?_;clear hKK KK hHeld;rename _=>hHeld
     refine zRd 18 (hr:=by as_aux_lemma=>kernel_rfl) (h:=fun KK hKK=>?_)
     go_simp
     (refine((zb HL7) r27 (hm27.after (Nat.le_refl _) (by repeat (first | exact zR _ | assumption | apply zA | apply zD | refine zT ?_ (by assumption))))).mono ?_;rintro e w28 ⟨rfl,hb28⟩)
     go_simp
     refine zKK hKK HKP fun hHeld2=>?_;clear hKK KK hHeld;rename _=>hHeld
     refine zTk 19 (hk:=by as_aux_lemma=>kernel_rfl) (h:=?_)
     refine zTk 20 (hk:=by as_aux_lemma=>kernel_rfl) (h:=?_)
     refine zTk 21 (hk:=by as_aux_lemma=>kernel_rfl) (h:=?_)
     exact zL (HC.out _ _ _ _ _ _ _ _ (by repeat (first | exact zR _ | assumption | apply zA | apply zD | refine zT ?_ (by assumption))) (by assumption))
 case rest =>
 obtain⟨rfl,hE2⟩:=hcut
 have HP3:=Lib.hid (fun W (hb:Below W1.heap.size W1 W)=>aPath 3 3 fileT _ W W1.heap.size (HMF.out W _) hb.size (by decide))
 have HP10:=Lib.hid (fun W (hb:Below W1.heap.size W1 W)=>aPath 10 10 fileT _ W W1.heap.size (HMF.out W _) hb.size (by decide))
 rw[show pathV 3 3 fileT=[fileT] from by simp[fileT,pathV,pathL]] at HP3
 rw[show pathV 10 10 fileT=[] from by simp[fileT,pathV,pathL]] at HP10
 have HP9:=Lib.hid (fun W=>aPlaced 9 fileT _ W (HMF.out W W.heap.size) (by decide))
 have HP8:=Lib.hid (fun W=>aPlaced 8 fileT _ W (HMF.out W W.heap.size) (by decide))
 rw[show placedV 9 fileT=true from by decide] at HP9
 rw[show placedV 8 fileT=false from by decide] at HP8
 unfold RN.val at HP3 HP10 HP9 HP8
 go_wp2_with fail
 refine zHD HKP fun hHeld=>?_
 refine zTk 0 (hk:=by as_aux_lemma=>kernel_rfl) (h:=?_)
 refine zTk 2 (hk:=by as_aux_lemma=>kernel_rfl) (h:=?_)
 refine zRd 1 (hr:=by as_aux_lemma=>kernel_rfl) (h:=fun KK hKK=>?_)
 go_simp
 (refine((zb HP3)).mono ?_;rintro e y1 ⟨⟨A,cap,rs,rfl,hrow,hrl,hn⟩,hy1⟩;have HR1:=Lib.hid (kids_of (Nat.le_refl _) hy1 hrow hrl);clear hrow hrl hn;dsimp only[List.length_cons,List.length_nil,Nat.zero_add])
 go_simp
 refine zKK hKK HKP fun hHeld2=>?_;clear hKK KK hHeld;rename _=>hHeld
 refine zRd 3 (hr:=by as_aux_lemma=>kernel_rfl) (h:=fun KK hKK=>?_)
 go_simp
 (refine((zb HP10)).mono ?_;rintro e y2 ⟨⟨A',cap',rs',rfl,hrow',hrl',hn'⟩,hy2⟩;have HR2:=Lib.hid (HR1.out.after (Nat.le_refl _) hy2);clear hrow' hrl' hn';dsimp only[List.length_nil])
 go_simp
 refine zKK hKK HKP fun hHeld2=>?_;clear hKK KK hHeld;rename _=>hHeld
 refine zTk 4 (hk:=by as_aux_lemma=>kernel_rfl) (h:=?_)
 refine zTk 5 (hk:=by as_aux_lemma=>kernel_rfl) (h:=?_)
 refine wpAnyH_done (by kernel_rfl) ?_ _
 have HE2:=Lib.hid hHeld.1
 clear hHeld
 obtain⟨ba,offa,ra,rfl,hba,hma,c0,c1,c2,c3,c4,c5⟩:=HR2.out.at (i:=0) rfl
 simp only[Nat.zero_mul,Nat.add_zero] at c0 c1 c2 c3 c4 c5
 have HCC:=Lib.hid (And.intro c0 (And.intro c1 (And.intro c2 (And.intro c3 (And.intro c4 c5)))))
 have HB12:=Lib.hid (zT HB1.out HE2.out)
 have HBF:=Lib.hid (qg HX.out.2.1 HB12.out)
 have HSM:=Lib.hid (fun W (hb:Below y2.heap.size y2 W)=>qv2 fileT fileT ra _ W (hma.after (Nat.le_refl _) hb) (HMF.out W W.heap.size) (by decide))
 rw[show qaS fileT fileT=true from by decide] at HSM
 unfold RN.val at HSM
 clear c0 c1 c2 c3 c4 c5 hma
 go_wp2_with fail
 have HKP:=Lib.hid (fun W' (hBW:Below y2.heap.size y2 W')=>(show(zE y2 (wA.heap.size+1) (⟨1,0,9,0,⟨#[112]⟩,none,0,0⟩:RN) (fun w'=>w'.cell? ⟨ba,offa,none⟩=some (.int .i64 ra.kind)∧w'.cell? ⟨ba,offa+1,none⟩=some (.int .i64 ra.fr)∧w'.cell? ⟨ba,offa+2,none⟩=some (.int .i64 ra.en)∧w'.cell? ⟨ba,offa+3,none⟩=some (.int .i64 ra.at_)∧w'.cell? ⟨ba,offa+4,none⟩=some (.string ra.name)∧w'.cell? ⟨ba,offa+5,none⟩=some (.slice ra.A ra.n ra.cap))) W' from by exact box_keepC HBF.out hba HCC.out hBW))
 refine zHD HKP fun hHeld=>?_
 refine zTk 0 (hk:=by as_aux_lemma=>kernel_rfl) (h:=?_)
 refine zTk 1 (hk:=by as_aux_lemma=>kernel_rfl) (h:=?_)
 refine zTk 2 (hk:=by as_aux_lemma=>kernel_rfl) (h:=?_)
 refine zTk 3 (hk:=by as_aux_lemma=>kernel_rfl) (h:=?_)
 refine zTk 4 (hk:=by as_aux_lemma=>kernel_rfl) (h:=?_)
 refine zTk 5 (hk:=by as_aux_lemma=>kernel_rfl) (h:=?_)
 refine zTk 6 (hk:=by as_aux_lemma=>kernel_rfl) (h:=?_)
 refine zTk 7 (hk:=by as_aux_lemma=>kernel_rfl) (h:=?_)
 refine zRd 8 (hr:=by as_aux_lemma=>kernel_rfl) (h:=fun KK hKK=>?_)
 go_simp
 (refine((zb HSM)).mono ?_;rintro e z1 ⟨rfl,hz1⟩)
 go_simp
 refine zKK hKK HKP fun hHeld2=>?_;clear hKK KK hHeld;rename _=>hHeld
 refine zTk 9 (hk:=by as_aux_lemma=>kernel_rfl) (h:=?_)
 refine zTk 10 (hk:=by as_aux_lemma=>kernel_rfl) (h:=?_)
 refine zTk 11 (hk:=by as_aux_lemma=>kernel_rfl) (h:=?_)
 refine zTk 12 (hk:=by as_aux_lemma=>kernel_rfl) (h:=?_)
 refine zTk 13 (hk:=by as_aux_lemma=>kernel_rfl) (h:=?_)
 refine zTk 14 (hk:=by as_aux_lemma=>kernel_rfl) (h:=?_)
 refine zTk 15 (hk:=by as_aux_lemma=>kernel_rfl) (h:=?_)
 refine zTk 16 (hk:=by as_aux_lemma=>kernel_rfl) (h:=?_)
 refine zRd 17 (hr:=by as_aux_lemma=>kernel_rfl) (h:=fun KK hKK=>?_)
 go_simp
 (refine(HP9.out _).mono ?_;rintro e z2 ⟨rfl,hz2⟩)
 go_simp
 refine zKK hKK HKP fun hHeld2=>?_;clear hKK KK hHeld;rename _=>hHeld
 refine zTk 18 (hk:=by as_aux_lemma=>kernel_rfl) (h:=?_)
 refine zTk 19 (hk:=by as_aux_lemma=>kernel_rfl) (h:=?_)
 refine zTk 20 (hk:=by as_aux_lemma=>kernel_rfl) (h:=?_)
 refine zRd 21 (hr:=by as_aux_lemma=>kernel_rfl) (h:=fun KK hKK=>?_)
 go_simp
 (refine(HP8.out _).mono ?_;rintro e z3 ⟨rfl,hz3⟩)
 go_simp
 refine zKK hKK HKP fun hHeld2=>?_;clear hKK KK hHeld;rename _=>hHeld
 refine zTk 22 (hk:=by as_aux_lemma=>kernel_rfl) (h:=?_)
 refine zTk 23 (hk:=by as_aux_lemma=>kernel_rfl) (h:=?_)
 refine zTk 24 (hk:=by as_aux_lemma=>kernel_rfl) (h:=?_)
 refine zRd 25 (hr:=by as_aux_lemma=>kernel_rfl) (h:=fun KK hKK=>?_)
 go_simp
 (refine(HW.out _ (zT HB12.out (by repeat (first | exact zR _ | assumption | apply zA | apply zD | refine zT ?_ (by assumption))))).mono ?_;rintro e z4 ⟨rfl,hz4⟩)
 go_simp
 refine zKK hKK HKP fun hHeld2=>?_;clear hKK KK hHeld;rename _=>hHeld
 refine zTk 26 (hk:=by as_aux_lemma=>kernel_rfl) (h:=?_)
 refine zTk 27 (hk:=by as_aux_lemma=>kernel_rfl) (h:=?_)
 refine wpAnyH_done (by kernel_rfl) ?_ _
 have HE3:=Lib.hid hHeld.1
 clear hHeld
 go_wp2_with fail
 go_ret
 exact⟨rfl,qa HBA.out (qa HB.out (zT HB12.out HE3.out))⟩
end Go.Proofs.YtacdfjlncfidgaaGreatDoor
