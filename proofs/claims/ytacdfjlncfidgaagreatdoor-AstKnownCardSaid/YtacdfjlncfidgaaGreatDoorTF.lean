/- A part of what the claim leans on. -/
import Derived.Test.YtacdfjlncfidgaaGreatDoorQS
import Derived.Deep.RegionHeld
import Derived.Below
import Derived.Test.YtacdfjlncfidgaaGreatDoorTB
import Derived.Test.YtacdfjlncfidgaaGreatDoorTE
import Derived.Laws.MakeOwn
import Derived.Laws.CopyOwn
namespace Go.Proofs.YtacdfjlncfidgaaGreatDoor
open Go.RowKit
set_option linter.unusedVariables false
set_option linter.unusedSimpArgs false
set_option maxRecDepth 100000
set_option maxHeartbeats 3200000
theorem zR (w:World):Below w.heap.size w w:=Below.refl _ _
theorem zA {a X:World} {o:Obj} (h:Below a.heap.size a X):Below a.heap.size a (X.alloc o):=h.alloc h.size o
theorem zD {a X:World} (h:Below a.heap.size a X):Below a.heap.size a X.drew:=h.drew
theorem zT {a X Y:World} (h:Below a.heap.size a X) (h2:Below X.heap.size X Y):Below a.heap.size a Y:=h.trans (h2.mono h.size)
theorem zSa {α:Type} (l:List α) (i:Nat) (x:α):l.toArray.setIfInBounds i x=(l.set i x).toArray:=by simp
theorem zSb {α:Type} (l:List α) (x y:α):(x::l).set 0 y=y::l:=rfl
theorem zSc {α:Type} (l:List α) (n:Nat) (x y:α):(x::l).set (n+1) y=x::l.set n y:=rfl
def zS (W0:World) (b:Nat) (r:RN) (w:World):Prop:=Below W0.heap.size W0 w∧w.cell? ⟨b,0,none⟩=some (.int .i64 r.kind)∧w.cell? ⟨b,1,none⟩=some (.int .i64 r.fr)∧w.cell? ⟨b,2,none⟩=some (.int .i64 r.en)∧w.cell? ⟨b,3,none⟩=some (.int .i64 r.at_)∧w.cell? ⟨b,4,none⟩=some (.string r.name)∧w.cell? ⟨b,5,none⟩=some (.slice r.A r.n r.cap)
def zE (W0:World) (b:Nat) (r:RN) (E:World→Prop) (w:World):Prop:=Below W0.heap.size W0 w∧w.cell? ⟨b,0,none⟩=some (.int .i64 r.kind)∧w.cell? ⟨b,1,none⟩=some (.int .i64 r.fr)∧w.cell? ⟨b,2,none⟩=some (.int .i64 r.en)∧w.cell? ⟨b,3,none⟩=some (.int .i64 r.at_)∧w.cell? ⟨b,4,none⟩=some (.string r.name)∧w.cell? ⟨b,5,none⟩=some (.slice r.A r.n r.cap)∧E w
def zW (W0:World) (b o:Nat) (r:RN) (b' o':Nat) (r':RN) (w:World):Prop:=Below W0.heap.size W0 w∧(w.cell? ⟨b,o,none⟩=some (.int .i64 r.kind)∧w.cell? ⟨b,o+1,none⟩=some (.int .i64 r.fr)∧w.cell? ⟨b,o+2,none⟩=some (.int .i64 r.en)∧w.cell? ⟨b,o+3,none⟩=some (.int .i64 r.at_)∧w.cell? ⟨b,o+4,none⟩=some (.string r.name)∧w.cell? ⟨b,o+5,none⟩=some (.slice r.A r.n r.cap))∧w.cell? ⟨b',o',none⟩=some (.int .i64 r'.kind)∧w.cell? ⟨b',o'+1,none⟩=some (.int .i64 r'.fr)∧w.cell? ⟨b',o'+2,none⟩=some (.int .i64 r'.en)∧w.cell? ⟨b',o'+3,none⟩=some (.int .i64 r'.at_)∧w.cell? ⟨b',o'+4,none⟩=some (.string r'.name)∧w.cell? ⟨b',o'+5,none⟩=some (.slice r'.A r'.n r'.cap)
section
variable {P:Program} {ops:Array Oper} {Q:Exit→Act→World→Prop} {md:Region.Mode} {S:World→Prop} {oi:Oper} {rest:List Oper} {fuel:Nat} {listed:Array Bool} {a:Act} {w:World}
theorem zAt {i:Nat} (hi:ops.toList.drop i=oi::rest):ops[i]?=some oi:=by
 have h:(ops.toList.drop i)[0]?=some oi:=by rw[hi];rfl
 rw[List.getElem?_drop,Nat.add_zero,Array.getElem?_toList] at h
 exact h
theorem zTk (i:Nat) {v:Value} {a':Act} (hi:ops.toList.drop i=oi::rest:=by rfl) (hk:(Region.noSelect ops&&Region.free md ops listed i&&(Region.ready md ops listed).contains i)=true:=by kernel_rfl) (hQ:∀ c a w,Q (.panic c) (a.put oi.dst v) w→Q (.panic c) a w:=by exact fun _ _ _ h=>h)
  (hw:Region.wanted oi (yielded ops a.tmps)=true:=by rfl) (hS:S w:=by assumption) (hy:∀ w,S w→(execOp a.eval oi).run P w = .ok (.value v) w:=by intro _ hS;(try dsimp only[zS,zE,zW] at hS);go_simp;all_goals with_reducible rfl) (ha:a.put oi.dst v=a':=by(try simp only[Act.put,zSa,zSb,zSc]);first | done | rfl)
  (h:wpAnyH P md ops Q S fuel (listed.setIfInBounds i true) a' w):wpAnyH P md ops Q S (fuel+1) listed a w:=by
 simp only[Bool.and_eq_true] at hk
 subst ha
 exact wpAnyH_take (zAt hi) hk.1.1 hk.1.2 hk.2 hQ (Or.inl ⟨hw,hy⟩) hS h
theorem zTn (i:Nat) {a':Act} (hi:ops.toList.drop i=oi::rest:=by rfl) (hk:(Region.noSelect ops&&Region.free md ops listed i&&(Region.ready md ops listed).contains i)=true:=by kernel_rfl) (hQ:∀ c a w,Q (.panic c) (a.put oi.dst undef) w→Q (.panic c) a w:=by exact fun _ _ _ h=>h)
  (hw:Region.wanted oi (yielded ops a.tmps)=false:=by rfl) (hS:S w:=by assumption) (ha:a.put oi.dst undef=a':=by(try simp only[Act.put,zSa,zSb,zSc]);first | done | rfl) (h:wpAnyH P md ops Q S fuel (listed.setIfInBounds i true) a' w):wpAnyH P md ops Q S (fuel+1) listed a w:=by
 simp only[Bool.and_eq_true] at hk
 subst ha
 exact wpAnyH_take (zAt hi) hk.1.1 hk.1.2 hk.2 hQ (Or.inr ⟨hw,rfl⟩) hS h
theorem zRd (i:Nat) (hr:Region.ready md ops listed=[i]:=by kernel_rfl) (hi:ops.toList.drop i=oi::rest:=by rfl)
  (h:∀ K':Act→World→Prop,Shut (∀ a w,S w→(S w→wpAnyH P md ops Q S fuel (listed.setIfInBounds i true) a w)→K' a w)→if Region.wanted oi (yielded ops a.tmps)=true then Oper.wp P oi a w K' Q else K' (a.put oi.dst undef) w) :
  wpAnyH P md ops Q S (fuel+1) listed a w :=
 wpAnyH_ready hr zxs (AllReadyH.cons (zAt hi) h AllReadyH.nil)
theorem zKK {a':Act} {W0:World} {K':Act→World→Prop} (hKK:Shut (∀ a w,S w→(S w→wpAnyH P md ops Q S fuel listed a w)→K' a w)) (HKP:Hid (∀ W',Below W0.heap.size W0 W'→S W'))
  (h:S w→wpAnyH P md ops Q S fuel listed a' w) (hb:Below W0.heap.size W0 w:=by repeat (first | exact zR _ | assumption | apply zA | apply zD | refine zT ?_ zxa)) (ha:a=a':=by(try simp only[Act.put,zSa,zSb,zSc]);first | done | rfl):K' a w:=by
 subst ha
 exact hKK.out _ _ (HKP.out _ hb) h
theorem zHD {W0:World} {id:Nat} (HKP:Hid (∀ W',Below W0.heap.size W0 W'→S W')) (h:S w.drew→wpAnyH P .any ops Q S ops.size (Array.replicate ops.size false) a w.drew)
  (hm:P.follows .mixedOrders=true:=by kernel_rfl) (hb:Below W0.heap.size W0 w.drew:=by repeat (first | exact zR _ | assumption | apply zA | apply zD | refine zT ?_ zxa)):(Code.region id ops true).wp P Q a w:=wp_region_held_drew hm (HKP.out _ hb) h
end
theorem zb {p:World→Prop} {W0 W:World} (H:Hid (∀ W,Below W0.heap.size W0 W→p W)) (hb:Below W0.heap.size W0 W:=by repeat (first | exact zR _ | assumption | apply zA | apply zD | refine zT ?_ zxa)):p W:=H.out W hb
theorem zW.of {W0 w:World} {b o b' o':Nat} {r r':RN} (hb:b<W0.heap.size) (hb':b'<W0.heap.size) (h:(W0.cell? ⟨b,o,none⟩=some (.int .i64 r.kind)∧W0.cell? ⟨b,o+1,none⟩=some (.int .i64 r.fr)∧W0.cell? ⟨b,o+2,none⟩=some (.int .i64 r.en)∧W0.cell? ⟨b,o+3,none⟩=some (.int .i64 r.at_)∧W0.cell? ⟨b,o+4,none⟩=some (.string r.name)∧W0.cell? ⟨b,o+5,none⟩=some (.slice r.A r.n r.cap))) (h':W0.cell? ⟨b',o',none⟩=some (.int .i64 r'.kind)∧W0.cell? ⟨b',o'+1,none⟩=some (.int .i64 r'.fr)∧W0.cell? ⟨b',o'+2,none⟩=some (.int .i64 r'.en)∧W0.cell? ⟨b',o'+3,none⟩=some (.int .i64 r'.at_)∧W0.cell? ⟨b',o'+4,none⟩=some (.string r'.name)∧W0.cell? ⟨b',o'+5,none⟩=some (.slice r'.A r'.n r'.cap)) (hB:Below W0.heap.size W0 w:=by repeat (first | exact zR _ | assumption | apply zA | apply zD | refine zT ?_ zxa)):zW W0 b o r b' o' r' w:=by
 obtain⟨a0,a1,a2,a3,a4,a5⟩:=h
 obtain⟨b0,b1,b2,b3,b4,b5⟩:=h'
 exact⟨hB,⟨(hB.cell hb).trans a0,(hB.cell hb).trans a1,(hB.cell hb).trans a2,(hB.cell hb).trans a3,(hB.cell hb).trans a4,(hB.cell hb).trans a5⟩,(hB.cell hb').trans b0,(hB.cell hb').trans b1,(hB.cell hb').trans b2,(hB.cell hb').trans b3,(hB.cell hb').trans b4,(hB.cell hb').trans b5⟩
abbrev Q5 (v:Value) (Pr:Tree→Bool) (w:World) (x:Tree):Prop:=SortAt Tryz.prog v Pr w x
def SortsAt (w:World) (A:Option Addr) (n:Nat) (Ps:List (Tree→Bool)) (l:List Tree):Prop :=
 ∃ vs:List Value,RowOf (fun v:Value=>[v]) 1 w w.heap.size A vs∧vs.length=n∧Ps.length=n∧∀ (i:Nat) (v:Value) (P:Tree→Bool) (x:Tree),vs[i]?=some v→Ps[i]?=some P→l[i]?=some x→Q5 v P w x
theorem SortsAt.later {w w':World} {A:Option Addr} {n:Nat} {Ps:List (Tree→Bool)} {l:List Tree} (h:SortsAt w A n Ps l) (hb:Below w.heap.size w w'):SortsAt w' A n Ps l:=by
 obtain⟨vs,h1,h2,h3,h4⟩:=h
 exact⟨vs,h1.after zxn hb,h2,h3,fun i v P x hv hP hx=>(h4 i v P x hv hP hx).later hb⟩
theorem SortsAt.at {w:World} {A:Option Addr} {n:Nat} {Ps:List (Tree→Bool)} {l:List Tree} (h:SortsAt w A n Ps l) {i:Nat} {x:Tree} (hi:i<n) (hx:l[i]?=some x) :
  ∃ b off g lb P,A=some ⟨b,off,none⟩∧b<w.heap.size∧Ps[i]?=some P∧w.cell? ⟨b,off+i,none⟩=some (.func (.func g) #[] lb)∧(∀ args w,(callFunc g args).run Tryz.prog w = .ok (.enter g args) w) ∧
  ∀ (W:World) (rx:RN),Below w.heap.size w W→NodeM W W.heap.size x rx→Calls Tryz.prog g (#[rx.val]++lb) W fun e w'=>e = .returned (.bool (P x))∧Below W.heap.size W w':=by
 obtain⟨vs,h1,h2,h3,h4⟩:=h
 obtain⟨b,off,hA,hb,hc⟩:=h1 zxo
 obtain⟨v,hv⟩:∃ v,vs[i]?=some v:=⟨_,List.getElem?_eq_getElem zxo⟩
 obtain⟨P,hP⟩:∃ P,Ps[i]?=some P:=⟨_,List.getElem?_eq_getElem zxo⟩
 obtain⟨g,lb,rfl,eg,hS⟩:=h4 i v P x hv hP hx
 exact qtA
theorem SortsAt.len {w:World} {A:Option Addr} {n:Nat} {Ps:List (Tree→Bool)} {l:List Tree} (h:SortsAt w A n Ps l):Ps.length=n:=by
 obtain⟨vs,h1,h2,h3,h4⟩:=h;exact h3
theorem qi1 {Ps:List (Tree→Bool)} {l:List Tree} {j:Nat} {P:Tree→Bool} {x:Tree} (hP:Ps[j]?=some P) (hx:l[j]?=some x):qx (Ps.drop j) (l.drop j)=(P x&&qx (Ps.drop (j+1)) (l.drop (j+1))):=by
 rw[jk hP,jk hx,qx]
theorem QO (t:Tree) (r:RN) (w:World) (hm:NodeM w w.heap.size t r) (k:Int) (A:Option Addr) (n c:Nat) (Ps:List (Tree→Bool)) (hS:SortsAt w A n Ps t.kids) (hc:qY t≤3000) :
  Calls Tryz.prog 74 #[r.val,.int .i64 k,.slice A n c] w fun e w'=>e = .returned (.bool (decide (t.kind=k)&&qx Ps t.kids))∧Below w.heap.size w w':=by
 obtain⟨k',f,en,a,nm,l⟩:=t
 obtain⟨A',cap,rfl,hk⟩:=hm.open2
 have hlen:=jP hc
 change SortsAt w A n Ps l at hS
 show Calls Tryz.prog 74 _ w fun e w'=>e = .returned (.bool (decide (k'=k)&&qx Ps l))∧Below w.heap.size w w'
 have HB:=zxi ((Below.refl w.heap.size w).alloc zxn (qd ⟨k',f,en,a,qn nm,A',l.length,cap⟩))
 have HK:=zxi hk
 have HS:=zxi hS
 clear hm hk hS hc
 unfold RN.val
 by_cases h0:k'=k
 · subst h0
   by_cases h1:l.length=n
   · have b1:((l.length:Int) != (n:Int))=false:=by simp[h1]
     have b2:((l.length:Int) == (n:Int))=true:=by simp[h1]
     have HL:=zxi h1
     clear h1
     go_enter Tryz.func74,Tryz.ntmps74
     go_wp2_with fail
     go_loopw [7,8,23] (fun _ _ i wr=>∃ j:Nat,j≤n∧i = .int .i64 j∧qx Ps l=qx (Ps.drop j) (l.drop j)∧wr.heap[w.heap.size]?=some (qd ⟨k',f,en,a,qn nm,A',l.length,cap⟩)∧Below w.heap.size w wr) (fun _ _ i _=>n-(intOf i).toNat)
     case atStart=>exact⟨0,Nat.zero_le _,rfl,rfl,heap_alloc_new _ _,HB.out⟩
     case round =>
      obtain⟨j,hj,rfl,hv,hbx,hb⟩:=hrel
      have HB1:=zxi hb
      have HV1:=zxi hv
      have HBX:=zxi hbx
      obtain⟨e0,e1,e2,e3,e4,e5,ez,el⟩:=qD hbx
      have hsz:=hb.size
      clear hb hv hbx
      by_cases hlt:j<n
      · obtain⟨x,hx⟩:∃ x,l[j]?=some x:=⟨_,List.getElem?_eq_getElem (by rw[HL.out];exact hlt)⟩
        have hlt2:j<l.length:=by rw[HL.out];exact hlt
        obtain⟨b,off,rx,rfl,hbb,hmx,c0,c1,c2,c3,c4,c5⟩:=(HK.out.later HB1.out zxn).at hx
        obtain⟨b',off',g,lb,P,rfl,hbb',hP,d0,eg,hC⟩:=(HS.out.later HB1.out).at hlt hx
        have hb1:b<wr.heap.size:=by omega
        have HX:=zxi (show qx Ps l=(P x&&qx (Ps.drop (j+1)) (l.drop (j+1))) by rw[HV1.out,qi1 hP hx])
        have HC:=zxi (hC wr rx (Below.refl _ _) (hmx.here hsz))
        unfold RN.val at HC
        clear hmx hx hC hP
        cases hq:P x with
        | true =>
         rw[hq] at HC HX
         go_wp2_with (go_at_fn g;refine HC.out.mono ?_;rintro e w2 ⟨rfl,hb2⟩;have HB2:=zxi (And.intro (qg HBX.out hb2) (qa HB1.out hb2));clear hb2)
         go_roundw
         case rel=>exact⟨j+1,by omega,by go_num,by rw[HX.out];rfl,HB2.out.1,HB2.out.2⟩
         case measure=>simp only[intOf];omega
        | false =>
         rw[hq] at HC HX
         have HV:=zxi (show qx Ps l=false by rw[HX.out];rfl)
         go_wp2_with (go_at_fn g;refine HC.out.mono ?_;rintro e w2 ⟨rfl,hb2⟩;have HB2:=zxi (qa HB1.out hb2);clear hb2)
         go_ret
         exact⟨qi (by rw[HV.out];simp),HB2.out⟩
      · have HV:=zxi (show qx Ps l=true by rw[HV1.out,List.drop_of_length_le (by rw[HS.out.len];omega),List.drop_of_length_le (by rw[HL.out];omega)];rfl)
        go_wp2_with fail
        go_ret
        exact⟨qi (by simp[HV.out]),HB1.out⟩
   · have b1:((l.length:Int) != (n:Int))=true:=by simp;omega
     have b2:((l.length:Int) == (n:Int))=false:=by simp;omega
     have HV:=zxi (show qx Ps l=false from qch (by rw[HS.out.len];exact fun e=>h1 e.symm))
     clear h1
     exact qrP
 · have b1:(k' != k)=true:=by simp[h0]
   have b2:(k' == k)=false:=by simp[h0]
   have HV:=zxi (decide_eq_false h0)
   clear h0
   exact qrP
theorem jr (n:BL):(qn n).toList=n:=by rw[ByteArray.toList_eq,qj]
theorem Jd (n:BL):(qn n).size=n.length:=by show n.toArray.size=_;simp
theorem Qj (t:Tree) (r:RN) (w:World) (hm:NodeM w w.heap.size t r) (k:Int) (A:Option Addr) (n c:Nat) (Ps:List (Tree→Bool)) (hS:SortsAt w A n Ps t.kids) (hc:qY t≤3000) :
  Calls Tryz.prog 83 #[r.val,.int .i64 k,.slice A n c] w fun e w'=>e = .returned (.bool (t.name.isEmpty&&decide (t.kind=k)&&qx Ps t.kids))∧Below w.heap.size w w':=by
 have hb0:=(Below.refl w.heap.size w).alloc zxn (qd r)
 have HC:=zxi (QO t r (w.alloc (qd r)) (hm.boxed zxn _) k A n c Ps (hS.later hb0) hc)
 obtain⟨k',f,en,a,nm,l⟩:=t
 obtain⟨A',cap,rfl,hk⟩:=hm.open2
 have HB:=zxi hb0
 clear hm hk hS hc hb0
 change Hid (Calls _ _ _ _ fun e w'=>e = .returned (.bool (decide (k'=k)&&qx Ps l))∧_) at HC
 show Calls _ _ _ _ fun e w'=>e = .returned (.bool (nm.isEmpty&&decide (k'=k)&&qx Ps l))∧_
 unfold RN.val at HC ⊢
 cases nm with
 | nil =>
  have e1:(qn []).toList=[]:=jr []
  have e2:((qn []).toList == [])=true:=by rw[e1];rfl
  have hz:qn []=⟨#[]⟩:=rfl
  rw[hz] at HC ⊢
  go_enter Tryz.func83,Tryz.ntmps83
  go_wp2_with (go_at_call 74;refine HC.out.mono ?_;rintro e w2 ⟨rfl,hb2⟩;have HB2:=zxi (qa HB.out hb2);clear hb2)
  go_ret
  exact⟨qi zxs,HB2.out⟩
 | cons x y =>
  have e1:¬ (qn (x::y)).toList=[]:=by rw[jr];simp
  have e2:((qn (x::y)).toList == [])=false:=by rw[jr];rfl
  clear HC
  go_enter Tryz.func83,Tryz.ntmps83
  go_wp2_with fail
  go_ret
  exact⟨qi zxs,HB.out⟩
theorem jy (t:Tree) (r:RN) (w:World) (hm:NodeM w w.heap.size t r) (k:Int) (A:Option Addr) (n c:Nat) (Ps:List (Tree→Bool)) (hS:SortsAt w A n Ps t.kids) (hc:qY t≤3000) :
  Calls Tryz.prog 58 #[r.val,.int .i64 k,.slice A n c] w fun e w'=>e = .returned (.bool (qc t.name&&decide (t.kind=k)&&qx Ps t.kids))∧Below w.heap.size w w':=by
 have hb0:=(Below.refl w.heap.size w).alloc zxn (qd r)
 have HC:=zxi (fun W (hb:Below (w.alloc (qd r)).heap.size (w.alloc (qd r)) W)=>QO t r W ((hm.boxed zxn _).after zxn hb) k A n c Ps ((hS.later hb0).later hb) hc)
 obtain⟨k',f,en,a,nm,l⟩:=t
 obtain⟨A',cap,rfl,hk⟩:=hm.open2
 have hlen:=jP hc
 have HB:=zxi hb0
 have HN:=zxi (qs4 (qn nm) (w.alloc (qd ⟨k',f,en,a,qn nm,A',l.length,cap⟩)) (by rw[Jd];omega))
 rw[qj] at HN
 have HX:=zxi (heap_alloc_new w (qd ⟨k',f,en,a,qn nm,A',l.length,cap⟩))
 clear hm hk hS hc hb0
 change Hid (∀ (W:World) (hb:_),Calls _ _ _ _ fun e w'=>e = .returned (.bool (decide (k'=k)&&qx Ps l))∧_) at HC
 show Calls _ _ _ _ fun e w'=>e = .returned (.bool (qc nm&&decide (k'=k)&&qx Ps l))∧_
 unfold RN.val at HC ⊢
 cases hq:qc nm with
 | true =>
  rw[hq] at HN
  go_enter Tryz.func58,Tryz.ntmps58
  go_wp2_with (first | (go_at_call 73;refine HN.out.mono ?_;rintro e w1 ⟨rfl,hb1⟩;have HB1:=zxi hb1;obtain⟨e0,e1,e2,e3,e4,e5,ez,el⟩:=qD (qg HX.out hb1);clear hb1) | (go_at_call 74;refine(HC.out _ HB1.out).mono ?_;rintro e w2 ⟨rfl,hb2⟩;have HB2:=zxi (qa HB.out (qa HB1.out hb2));clear hb2))
  go_ret
  exact⟨qi zxs,HB2.out⟩
 | false =>
  rw[hq] at HN
  clear HC
  go_enter Tryz.func58,Tryz.ntmps58
  go_wp2_with (go_at_call 73;refine HN.out.mono ?_;rintro e w1 ⟨rfl,hb1⟩)
  go_ret
  exact⟨qi zxs,qa HB.out hb1⟩
theorem qrB:(Tryz.prog.info? 64).map (fun i=>(i.zero,i.size,i.bytes))=some (some Value.nilFunc,1,8):=by kernel_rfl
theorem qr7:(Tryz.prog.info? 64).map (·.size)=some 1:=by kernel_rfl
def Q3 (v:Value) (k m:Nat):List Value:=List.replicate k v++List.replicate (m-k) Value.nilFunc
theorem qfn (v:Value) {k m:Nat} (h:k≤m):(Q3 v k m).length=m:=by simp[Q3];omega
theorem qby (v:Value) {k c m:Nat} (h:k+c≤m):splice (Q3 v k m) k (List.replicate c v)=Q3 v (k+c) m:=by
 unfold splice Q3
 rw[List.take_left' zxs,List.length_replicate,List.drop_append]
 simp only[List.length_replicate,List.drop_replicate,show k-(k+c)=0 by omega,List.replicate_zero,List.nil_append,Nat.add_sub_cancel_left]
 rw[← List.append_assoc,List.replicate_append_replicate]
 congr 2;omega
theorem qgL (m:Nat) (hm:m≤3000) (w:World):(Instr.makeSlice 61 (.int .i64 (m:Int)) (.int .i64 (m:Int))).run Tryz.prog w = .ok (.slice (some ⟨w.heap.size,0,none⟩) m m) (w.alloc (.cells (Q3 Value.nilFunc 0 m).toArray 64)):=by
 obtain⟨i,hi,hz0,hz1,hz2⟩:=jg qrB
 have:=run_make (P:=Tryz.prog) w 61 64 i _ Tryz.underlying61 hi hz0 .i64 .i64 m m zxo zxo (by rw[hz2];omega) zxo
 rw[this,hz1]
 have e:madeCells (Value.nilFunc).cells ((m:Int).toNat*1)=(Q3 Value.nilFunc 0 m).toArray:=by
  apply Array.ext
  · rw[size_madeCells];simp[Q3]
  · intro j h1 h2
    simp[madeCells,Q3,Value.cells,Nat.mod_one]
 rw[e]
 simp
theorem qi3 {w:World} {b off c k:Nat} {v:Value} (hc:c≤k) (h:∀ j,j<k→w.cell? ⟨b,off+j,none⟩=some v):∀ j u,(List.replicate c v)[j]?=some u→w.cell? ((⟨b,off,none⟩:Addr).add j)=some u:=fun j u hj=>by
 have hlt:j<c:=by
  have:=(List.getElem?_eq_some_iff.1 hj).1
  simpa using this
 rw[List.getElem?_replicate,if_pos hlt] at hj
 cases hj
 rw[Addr.add_lit]
 exact h j zxo
theorem qi8 {w:World} {g m k:Nat} {v:Value} (h:w.heap[g]?=some (.cells (Q3 v k m).toArray 64 (0,0))):∀ j,j<k→w.cell? ⟨g,0+j,none⟩=some v:=fun j hj=>by
 rw[cell_of_row _ _ _ _ _ _ h,Nat.zero_add,List.getElem?_toArray]
 unfold Q3
 rw[List.getElem?_append_left (by simpa using hj),List.getElem?_replicate,if_pos hj]
theorem qaJ {W w0:World} {B g off dLen dCap:Nat} {ad:Addr} {sLen sCap:Nat} {cur:List Value} {v:Value} {c:Nat} (hg:W.heap[g]?=some (.cells cur.toArray 64 (0,0))) (hc:c=Nat.min sLen dLen)
  (hsrc:∀ j u,(List.replicate c v)[j]?=some u→W.cell? (ad.add j)=some u) (hfit:off+c≤cur.length) (hv:v.oneCell'=true) (hb:Below B w0 W) (hB:B≤g) :
  ∃ W',(Builtin.copy_ #[61,61] 3 #[.slice (some ⟨g,off,none⟩) dLen dCap,.slice (some ad) sLen sCap]).run Tryz.prog W = .ok (.int .i64 (c:Int)) W'∧W'.heap[g]?=some (.cells (splice cur off (List.replicate c v)).toArray 64 (0,0))∧Below B w0 W':=by
 have:=run_copy_row (P:=Tryz.prog) W 61 61 3 64 g off dLen dCap ad sLen sCap cur.toArray 64 (List.replicate c v) Tryz.underlying61 qr7 hg (by rw[List.length_replicate];exact hc) hsrc (by rw[List.length_replicate];simpa using hfit) (fun u hu=>by rw[(List.mem_replicate.1 hu).2];exact hv)
 rw[List.length_replicate,List.append_assoc] at this
 refine⟨_,this,?_,below_setRow hb hB _⟩
 have h2:=setRow_heap W g cur.toArray (cur.take off++(List.replicate c v++cur.drop (off+c))).toArray 64 (0,0) hg
 simp only[splice,List.length_replicate]
 exact h2
theorem qoS (v:Value) (hv:v.oneCell'=true) (b off m:Nat) (w:World) (hm:m≤3000) (hb:b<w.heap.size) (hc:w.cell? ⟨b,off,none⟩=some v) :
  Calls Tryz.prog 65 #[.slice (some ⟨b,off,none⟩) 1 1,.int .i64 (m:Int)] w fun e w'=>(∃ g,e = .returned (.slice (some ⟨g,0,none⟩) m m)∧w.heap.size≤g∧w'.heap[g]?=some (.cells (List.replicate m v).toArray 64 (0,0)))∧Below w.heap.size w w':=by
 have hM:=Tryz.bits_Mul 1 m zxo zxo
 have e1:1*m/18446744073709551616=0:=by omega
 have e2:1*m%18446744073709551616=m:=by omega
 rw[e1,e2] at hM
 have HM:=zxi hM
 have hmk:=qgL m hm
 have HV:=zxi hv
 have p0:(0:Int)≤(m:Int):=by omega
 have p1:(m:Int)≤3000:=by omega
 obtain⟨c1,hc1⟩:∃ c1,c1=Nat.min 1 m:=⟨_,rfl⟩
 have hc1m:c1≤m:=by rw[hc1];exact Nat.min_le_right _ _
 have hc1e:c1≤1:=by rw[hc1];exact Nat.min_le_left _ _
 have hc10:c1=0→m=0:=fun h=>by rw[hc1] at h;simp only[Nat.min_def] at h;split at h<;>omega
 obtain⟨w4,hcp,hg4,hb4⟩:=qaJ (W:=w.alloc (.cells (Q3 Value.nilFunc 0 m).toArray 64)) (w0:=w) (B:=w.heap.size) (g:=w.heap.size) (off:=0) (dLen:=m) (dCap:=m) (ad:=⟨b,off,none⟩) (sLen:=1) (sCap:=1) (cur:=Q3 Value.nilFunc 0 m) (v:=v) (c:=c1) (heap_alloc_new _ _) hc1
  (qi3 (k:=1) hc1e (fun j hj=>by
   obtain rfl:j=0:=by omega
   exact(World.cell?_alloc_lt _ _ _ hb).trans hc)) (by rw[qfn _ (Nat.zero_le _)];omega) hv ((Below.refl _ _).alloc zxn _) zxn
 rw[show Q3 Value.nilFunc 0 m=Q3 v 0 m by simp[Q3],qby v zxo,Nat.zero_add] at hg4
 have HG:=zxi hg4
 have HB:=zxi hb4
 have HC1:=zxi (And.intro hc1 hc10)
 clear hM e1 e2 hc1 hc10 hg4 hb4 hc hb hv
 go_enter Tryz.func65,Tryz.ntmps65
 go_wp2_with (first | (go_at_call 78;refine(HM.out _).mono ?_;rintro e w2 ⟨rfl,hw2⟩;subst hw2))
 go_loopw [8] (fun i wr=>∃ k:Nat,k≤m∧(k=0→m=0)∧i = .int .i64 k∧wr.heap[w2.heap.size]?=some (.cells (Q3 v k m).toArray 64 (0,0))∧Below w2.heap.size w2 wr) (fun i _=>m-(intOf i).toNat)
 case atStart=>exact⟨c1,hc1m,HC1.out.2,rfl,HG.out,HB.out⟩
 case round =>
  obtain⟨k,hk,hk0,rfl,hg,hb⟩:=hrel
  have HG1:=zxi hg
  have HB1:=zxi hb
  clear hg hb
  by_cases hlt:k<m
  · obtain⟨c,hcc⟩:∃ c,c=Nat.min k (m-k):=⟨_,rfl⟩
    have hcm:k+c≤m:=by
     have:c≤m-k:=by rw[hcc];exact Nat.min_le_right _ _
     omega
    have hck:c≤k:=by rw[hcc];exact Nat.min_le_left _ _
    have hc0:0<c:=by rw[hcc];exact Nat.lt_min.2 ⟨by omega,by omega⟩
    have q0:(0:Int)≤(k:Int):=by omega
    have q1:(k:Int)<(m:Int):=by omega
    have q2:(k:Int)≤(m:Int):=by omega
    have HCC:=zxi hcc
    obtain⟨w5,hcp5,hg5,hb5⟩:=qaJ (W:=wr.drew) (w0:=w2) (B:=w2.heap.size) (g:=w2.heap.size) (off:=k) (dLen:=m-k) (dCap:=m-k) (ad:=⟨w2.heap.size,0,none⟩) (sLen:=k) (sCap:=m) (cur:=Q3 v k m) (v:=v) (c:=c) HG1.out hcc (qi3 hck (qi8 HG1.out)) (by rw[qfn _ zxo];omega) HV.out HB1.out.drew zxn
    rw[qby v zxo] at hg5
    have HG5:=zxi hg5
    have HB5:=zxi hb5
    clear hcc hg5 hb5 hcp
    go_wp2_with fail
    go_big_region
    go_wp2_with fail
    go_roundw
    case rel=>exact⟨k+c,hcm,by omega,by go_num,HG5.out,HB5.out⟩
    case measure=>simp only[intOf];omega
  · obtain rfl:k=m:=by omega
    go_wp2_with fail
    go_ret
    exact⟨⟨_,rfl,Nat.le_refl _,by rw[HG1.out];simp[Q3]⟩,HB1.out⟩
theorem SortsAt.rep {w:World} {g m:Nat} {v:Value} {P:Tree→Bool} {l:List Tree} (h:w.heap[g]?=some (.cells (List.replicate m v).toArray 64 (0,0))) (hv:∀ x∈l,Q5 v P w x):SortsAt w (some ⟨g,0,none⟩) m (List.replicate m P) l:=by
 refine⟨List.replicate m v,fun _=>⟨g,0,rfl,(Array.getElem?_eq_some_iff.1 h).1,fun i x hx j u hu=>?_⟩,by simp,by simp,fun i u Q x hu hQ hx=>?_⟩
 · have hi:i<m:=by have:=(List.getElem?_eq_some_iff.1 hx).1;simpa using this
   rw[List.getElem?_replicate,if_pos hi] at hx
   cases hx
   cases j with
   | zero =>
    cases hu
    rw[cell_of_row _ _ _ _ _ _ h,List.getElem?_toArray]
    simp[hi]
   | succ j=>simp at hu
 · have hi:i<m:=by have:=(List.getElem?_eq_some_iff.1 hu).1;simpa using this
   rw[List.getElem?_replicate,if_pos hi] at hu hQ
   cases hu;cases hQ
   exact hv x (List.mem_of_getElem? hx)
theorem qmy (t:Tree) (r:RN) (w:World) (hm:NodeM w w.heap.size t r) (gf:Nat) (lb:Array Value) (hc:qY t≤3000) :
  Calls Tryz.prog 55 #[r.val,.func (.func gf) #[] lb] w fun e w'=>(∃ g,e = .returned (.slice (some ⟨g,0,none⟩) t.kids.length t.kids.length)∧w.heap.size≤g∧w'.heap[g]?=some (.cells (List.replicate t.kids.length (.func (.func gf) #[] lb)).toArray 64 (0,0)))∧Below w.heap.size w w':=by
 obtain⟨k',f,en,a,nm,l⟩:=t
 obtain⟨A',cap,rfl,hk⟩:=hm.open2
 have hlen:=jP hc
 show Calls _ _ _ _ fun e w'=>(∃ g,e = .returned (.slice (some ⟨g,0,none⟩) l.length l.length)∧w.heap.size≤g∧w'.heap[g]?=some (.cells (List.replicate l.length (.func (.func gf) #[] lb)).toArray 64 (0,0)))∧_
 have HB:=zxi (Jk w (qd ⟨k',f,en,a,qn nm,A',l.length,cap⟩) (.cells #[.func (.func gf) #[] lb] 64))
 have hsz:((w.alloc (qd ⟨k',f,en,a,qn nm,A',l.length,cap⟩)).alloc (.cells #[.func (.func gf) #[] lb] 64)).heap.size=w.heap.size+2:=by rw[World.size_alloc,World.size_alloc]
 have HR:=zxi (qoS (.func (.func gf) #[] lb) rfl (w.heap.size+1) 0 l.length ((w.alloc (qd ⟨k',f,en,a,qn nm,A',l.length,cap⟩)).alloc (.cells #[.func (.func gf) #[] lb] 64)) zxo zxo (by rw[World.cell?_alloc_at _ _ _ _ (by rw[World.size_alloc])];rfl))
 clear hm hk hc
 unfold RN.val
 go_enter Tryz.func55,Tryz.ntmps55
 go_wp2_with (go_at_call 65;refine HR.out.mono ?_;rintro e w2 ⟨⟨g,rfl,hg,hrow⟩,hb2⟩;have HB2:=zxi (qa HB.out hb2);have HRW:=zxi hrow;clear hb2 hrow)
 go_ret
 exact⟨⟨g,rfl,by omega,HRW.out⟩,HB2.out⟩
def OneAt (w:World) (A:Option Addr) (n:Nat) (Ps:List (Tree→Bool)) (x:Tree):Prop :=
 ∃ vs:List Value,RowOf (fun v:Value=>[v]) 1 w w.heap.size A vs∧vs.length=n∧Ps.length=n∧∀ (i:Nat) (v:Value) (P:Tree→Bool),vs[i]?=some v→Ps[i]?=some P→Q5 v P w x
theorem OneAt.later {w w':World} {A:Option Addr} {n:Nat} {Ps:List (Tree→Bool)} {x:Tree} (h:OneAt w A n Ps x) (hb:Below w.heap.size w w'):OneAt w' A n Ps x:=by
 obtain⟨vs,h1,h2,h3,h4⟩:=h
 exact⟨vs,h1.after zxn hb,h2,h3,fun i v P hv hP=>(h4 i v P hv hP).later hb⟩
theorem OneAt.at {w:World} {A:Option Addr} {n:Nat} {Ps:List (Tree→Bool)} {x:Tree} (h:OneAt w A n Ps x) {i:Nat} (hi:i<n) :
  ∃ b off g lb P,A=some ⟨b,off,none⟩∧b<w.heap.size∧Ps[i]?=some P∧w.cell? ⟨b,off+i,none⟩=some (.func (.func g) #[] lb)∧(∀ args w,(callFunc g args).run Tryz.prog w = .ok (.enter g args) w) ∧
  ∀ (W:World) (rx:RN),Below w.heap.size w W→NodeM W W.heap.size x rx→Calls Tryz.prog g (#[rx.val]++lb) W fun e w'=>e = .returned (.bool (P x))∧Below W.heap.size W w':=by
 obtain⟨vs,h1,h2,h3,h4⟩:=h
 obtain⟨b,off,hA,hb,hc⟩:=h1 zxo
 obtain⟨v,hv⟩:∃ v,vs[i]?=some v:=⟨_,List.getElem?_eq_getElem zxo⟩
 obtain⟨P,hP⟩:∃ P,Ps[i]?=some P:=⟨_,List.getElem?_eq_getElem zxo⟩
 obtain⟨g,lb,rfl,eg,hS⟩:=h4 i v P hv hP
 exact qtA
theorem OneAt.len {w:World} {A:Option Addr} {n:Nat} {Ps:List (Tree→Bool)} {x:Tree} (h:OneAt w A n Ps x):Ps.length=n:=by
 obtain⟨vs,h1,h2,h3,h4⟩:=h;exact h3
def Qh (Ps:List (Tree→Bool)) (x:Tree):Bool:=Ps.any (fun p=>p x)
theorem qke {Ps:List (Tree→Bool)} {j:Nat} {P:Tree→Bool} {x:Tree} (hP:Ps[j]?=some P):Qh (Ps.drop j) x=(P x||Qh (Ps.drop (j+1)) x):=by
 rw[jk hP];rfl
theorem aIs (g:Nat) (lb:Array Value) (bx:Nat) (rx:RN) (w:World) (b:Bool) (hbx:w.heap[bx]?=some (qd rx)) (eg:∀ args w,(callFunc g args).run Tryz.prog w = .ok (.enter g args) w)
  (h:Calls Tryz.prog g (#[rx.val]++lb) w fun e w'=>e = .returned (.bool b)∧Below w.heap.size w w') :
  Calls Tryz.prog 81 #[.func (.func g) #[] lb,.pointer (some ⟨bx,0,none⟩)] w fun e w'=>e = .returned (.bool b)∧Below w.heap.size w w':=by
 obtain⟨e0,e1,e2,e3,e4,e5,ez,el⟩:=qD hbx
 have HC:=zxi h
 unfold RN.val at HC
 clear h hbx
 go_enter Tryz.func81,Tryz.ntmps81
 go_wp2_with (go_at_fn g;refine HC.out.mono ?_;rintro e w2 ⟨rfl,hb2⟩)
 go_ret
 exact⟨rfl,hb2⟩
theorem qwb (x:Tree) (rx:RN) (A:Option Addr) (n c:Nat) (Ps:List (Tree→Bool)) (bx:Nat) (w:World) (hn:n≤1000) (hO:OneAt w A n Ps x) (hbx:w.heap[bx]?=some (qd rx)) (hm:NodeM w w.heap.size x rx) :
  Calls Tryz.prog 93 #[.slice A n c,.func (.func 81) #[] #[.pointer (some ⟨bx,0,none⟩)]] w fun e w'=>(∃ i:Int,e = .returned (.int .i64 i)∧decide (0≤i)=Qh Ps x)∧Below w.heap.size w w':=by
 have HO:=zxi hO
 have HX:=zxi hbx
 have HM:=zxi hm
 clear hO hbx hm
 go_enter Tryz.func93,Tryz.ntmps93
 go_wp2_with fail
 go_loopw [8] (fun i wr=>∃ j:Nat,j≤n∧i = .int .i64 j∧Qh Ps x=Qh (Ps.drop j) x∧Below w.heap.size w wr) (fun i _=>n-(intOf i).toNat)
 case atStart=>exact⟨0,Nat.zero_le _,rfl,rfl,Below.refl _ _⟩
 case round =>
  obtain⟨j,hj,rfl,hv,hb⟩:=hrel
  have HB1:=zxi hb
  have HV1:=zxi hv
  clear hb hv
  by_cases hlt:j<n
  · obtain⟨b,off,g,lb,P,rfl,hbb,hP,d0,eg,hC⟩:=(HO.out.later HB1.out).at hlt
    have HV2:=zxi (show Qh Ps x=(P x||Qh (Ps.drop (j+1)) x) by rw[HV1.out,qke hP])
    have HC:=zxi (aIs g lb bx rx wr (P x) (qg HX.out HB1.out) eg (hC wr rx (Below.refl _ _) (HM.out.after zxn HB1.out)))
    have eg2:∀ args w,(callFunc 81 args).run Tryz.prog w = .ok (.enter 81 args) w:=fun args w=>by rfl
    clear hC hP eg
    cases hq:P x with
    | true =>
     rw[hq] at HC HV2
     go_wp2_with (go_at_fn 81;refine HC.out.mono ?_;rintro e w2 ⟨rfl,hb2⟩;have HB2:=zxi (qa HB1.out hb2);clear hb2)
     go_ret
     exact⟨⟨_,rfl,by rw[HV2.out];simp⟩,HB2.out⟩
    | false =>
     rw[hq] at HC HV2
     go_wp2_with (go_at_fn 81;refine HC.out.mono ?_;rintro e w2 ⟨rfl,hb2⟩;have HB2:=zxi (qa HB1.out hb2);clear hb2)
     go_roundw
     case rel=>exact⟨j+1,by omega,by go_num,by rw[HV2.out];rfl,HB2.out⟩
     case measure=>simp only[intOf];omega
  · have HV:=zxi (show Qh Ps x=false by rw[HV1.out,List.drop_of_length_le (by rw[HO.out.len];omega)];rfl)
    go_wp2_with fail
    go_ret
    exact⟨⟨_,rfl,by rw[HV.out];rfl⟩,HB1.out⟩
theorem qjs (x:Tree) (rx:RN) (A:Option Addr) (n c:Nat) (Ps:List (Tree→Bool)) (bx:Nat) (w:World) (hn:n≤1000) (hO:OneAt w A n Ps x) (hbx:w.heap[bx]?=some (qd rx)) (hm:NodeM w w.heap.size x rx) :
  Calls Tryz.prog 80 #[.slice A n c,.func (.func 81) #[] #[.pointer (some ⟨bx,0,none⟩)]] w fun e w'=>e = .returned (.bool (Qh Ps x))∧Below w.heap.size w w':=by
 have HI:=zxi (qwb x rx A n c Ps bx w hn hO hbx hm)
 clear hO hbx hm
 go_enter Tryz.func80,Tryz.ntmps80
 go_wp2_with (go_at_call 93;refine HI.out.mono ?_;rintro e w2 ⟨⟨i,rfl,hi⟩,hb2⟩;have HI2:=zxi hi;clear hi)
 go_ret
 exact⟨qi HI2.out,hb2⟩
def OneV (w:World) (v:Value) (A:Option Addr) (n c:Nat):Prop:=∃ bx,v = .func (.func 79) #[] #[.pointer (some ⟨bx,0,none⟩)]∧w.heap[bx]?=some (.cells #[.slice A n c] 61 (0,0))
theorem qry {w:World} {v:Value} {A:Option Addr} {n c:Nat} {Ps:List (Tree→Bool)} {x:Tree} (hv:OneV w v A n c) (hn:n≤1000) (hO:OneAt w A n Ps x):Q5 v (Qh Ps) w x:=by
 obtain⟨bx,rfl,hbx⟩:=hv
 refine⟨79,_,rfl,fun args w=>by rfl,fun W rx hW hm=>?_⟩
 obtain⟨f0,fz,fl⟩:=jf (qg hbx hW)
 have hb0:=(Below.refl W.heap.size W).alloc zxn (qd rx)
 have HC:=zxi (qjs x rx A n c Ps W.heap.size (W.alloc (qd rx)) hn ((hO.later hW).later hb0) (heap_alloc_new _ _) (hm.boxed zxn _))
 have HB:=zxi hb0
 clear hm hO hbx hW hb0
 show Calls Tryz.prog 79 #[rx.val,.pointer (some ⟨bx,0,none⟩)] W _
 unfold RN.val
 go_enter Tryz.func79,Tryz.ntmps79
 go_wp2_with (go_at_call 80;refine HC.out.mono ?_;rintro e w2 ⟨rfl,hb2⟩)
 exact qg8
theorem qfu (A:Option Addr) (n c:Nat) (w:World):Calls Tryz.prog 67 #[.slice A n c] w fun e w'=>(∃ lb,e = .returned (.func (.func 79) #[] lb)∧OneV w' (.func (.func 79) #[] lb) A n c)∧Below w.heap.size w w':=by
 have HX:=zxi (heap_alloc_new w (.cells #[.slice A n c] 61))
 go_enter Tryz.func67,Tryz.ntmps67
 exact qkw
noncomputable abbrev RR (d:Nat) (t:Tree):Bool:=isR qc qw t d
def FnP (f:Nat) (P:Tree→Bool) (x:Tree):Prop:=∀ (r:RN) (w:World),LexG w→NodeM w w.heap.size x r→qY x≤3000→Calls Tryz.prog f #[r.val] w fun e w'=>e = .returned (.bool (P x))∧Below w.heap.size w w'
theorem FnP.sort {f:Nat} {P:Tree→Bool} {x:Tree} {w:World} (h:FnP f P x) (eg:∀ args w,(callFunc f args).run Tryz.prog w = .ok (.enter f args) w) (hG:LexG w) (hc:qY x≤3000):Q5 (.func (.func f) #[] #[]) P w x :=
 ⟨f,#[],rfl,eg,fun W rx hW hm=>by simpa using h rx W (hG.below hW) hm hc⟩
def PairOk (w:World) (l:List Tree):List Value→List (Tree→Bool)→Prop
 | [],[]=>True
 | v::vs,P::Ps=>(∀ x∈l,Q5 v P w x)∧PairOk w l vs Ps
 | _,_=>False
theorem PairOk.len {w:World} {l:List Tree}:∀ {vs:List Value} {Ps:List (Tree→Bool)},PairOk w l vs Ps→Ps.length=vs.length
 | [],[],_=>rfl
 | v::vs,P::Ps,h=>by simp[PairOk.len h.2]
theorem PairOk.at {w:World} {l:List Tree}:∀ {vs:List Value} {Ps:List (Tree→Bool)},PairOk w l vs Ps→∀ (i:Nat) (v:Value) (P:Tree→Bool),vs[i]?=some v→Ps[i]?=some P→∀ x∈l,Q5 v P w x
 | v::vs,P::Ps,h,0,u,Q,hu,hQ=>by cases hu;cases hQ;exact h.1
 | v::vs,P::Ps,h,i+1,u,Q,hu,hQ=>PairOk.at h.2 i u Q (by simpa using hu) (by simpa using hQ)
 | [],[],h,i,u,Q,hu,hQ=>by simp at hu
theorem qiE {w:World} {g:Nat} {vs:List Value} (h:w.heap[g]?=some (.cells vs.toArray 64 (0,0))):RowOf (fun v:Value=>[v]) 1 w w.heap.size (some ⟨g,0,none⟩) vs:=fun _=>by
 refine⟨g,0,rfl,(Array.getElem?_eq_some_iff.1 h).1,fun i x hx j u hu=>?_⟩
 cases j with
 | zero =>
  cases hu
  rw[cell_of_row _ _ _ _ _ _ h,List.getElem?_toArray]
  simpa using hx
 | succ j=>simp at hu
theorem SortsAt.lit {w:World} {g:Nat} {vs:List Value} {Ps:List (Tree→Bool)} {l:List Tree} (h:w.heap[g]?=some (.cells vs.toArray 64 (0,0))) (hp:PairOk w l vs Ps):SortsAt w (some ⟨g,0,none⟩) vs.length Ps l :=
 ⟨vs,qiE h,rfl,hp.len,fun i v P x hv hP hx=>hp.at i v P hv hP x (List.mem_of_getElem? hx)⟩
theorem SortsAt.nil_ (w:World) (A:Option Addr) (l:List Tree):SortsAt w A 0 [] l:=⟨[],RowOf.nil_,rfl,rfl,fun i v P x hv _ _=>by simp at hv⟩
theorem OneAt.lit {w:World} {g:Nat} {vs:List Value} {Ps:List (Tree→Bool)} {x:Tree} (h:w.heap[g]?=some (.cells vs.toArray 64 (0,0))) (hp:PairOk w [x] vs Ps):OneAt w (some ⟨g,0,none⟩) vs.length Ps x :=
 ⟨vs,qiE h,rfl,hp.len,fun i v P hv hP=>hp.at i v P hv hP x zxs⟩
theorem LexG.alloc {w:World} (h:LexG w) (o:Obj):LexG (w.alloc o):=h.below ((Below.refl _ _).alloc zxn o)
theorem QF (x:Tree):FnP 69 (RR 0) x:=by
 intro r w hG hm hc
 have hp:=Qj x r (w.alloc (qd r)) (hm.boxed zxn _) 0 none 0 0 [] (.nil_ _ _ _) hc
 have e:(x.name.isEmpty&&decide (x.kind=0)&&qx [] x.kids)=RR 0 x:=by
  obtain⟨k,f,e,a,n,l⟩:=x
  show(n.isEmpty&&decide (k=0)&&qx [] l)=isR qc qw _ 0
  rw[qtQ,qN,Bool.and_comm n.isEmpty]
 rw[e] at hp
 have HP:=zxi hp
 have HB:=zxi ((Below.refl w.heap.size w).alloc zxn (qd r))
 generalize RR 0 x=B at *
 clear hG hm hc hp e
 unfold RN.val at HP ⊢
 go_enter Tryz.func69,Tryz.ntmps69
 go_wp2_with (go_at_call 83;refine HP.out.mono ?_;rintro e w2 ⟨rfl,hb2⟩)
 exact qg8
theorem qk {t x:Tree} {N:Nat} (h:qY t≤N) (hx:x∈t.kids):qY x≤N:=by
 obtain⟨k,f,e,a,n,l⟩:=t
 exact Jy h hx
theorem quj (k f t a:Int) (n:BL) (l:List Tree):isR qc qw (.mk k f t a n l) 1=(qc n&&decide (k=2)&&l.isEmpty):=by
 rw[qT,qF]
 by_cases h:k=2
 · exact qgG
 · exact qag
noncomputable def qj0 (t:Tree):Bool:=qc t.name&&decide (t.kind=9)&&qx [RR 17] t.kids
theorem qer (x:Tree):FnP 94 (RR 17) x:=by
 intro r w hG hm hc
 have hp:=jy x r (w.alloc (qd r)) (hm.boxed zxn _) 25 none 0 0 [] (.nil_ _ _ _) hc
 have HB:=zxi ((Below.refl w.heap.size w).alloc zxn (qd r))
 have e:(qc x.name&&decide (x.kind=25)&&qx [] x.kids)=RR 17 x:=by
  obtain⟨k,f,e,a,n,l⟩:=x
  show(qc n&&decide (k=25)&&qx [] l)=(isR qc qw (.mk k f e a n l) 17)
  rw[qih,qN,Bool.and_comm (qc n)]
 rw[e] at hp
 have HP:=zxi hp
 generalize RR 17 x=B at *
 clear hG hm hc hp e
 unfold RN.val at HP ⊢
 go_enter Tryz.func94,Tryz.ntmps94
 exact qeL
theorem qnr (x:Tree):FnP 82 (RR 7) x:=by
 intro r w hG hm hc
 have hp:=jy x r (w.alloc (qd r)) (hm.boxed zxn _) 8 none 0 0 [] (.nil_ _ _ _) hc
 have HB:=zxi ((Below.refl w.heap.size w).alloc zxn (qd r))
 have e:(qc x.name&&decide (x.kind=8)&&qx [] x.kids)=RR 7 x:=by
  obtain⟨k,f,e,a,n,l⟩:=x
  show(qc n&&decide (k=8)&&qx [] l)=(isR qc qw (.mk k f e a n l) 7)
  rw[qn6,qN,Bool.and_comm (qc n)]
 rw[e] at hp
 have HP:=zxi hp
 generalize RR 7 x=B at *
 clear hG hm hc hp e
 unfold RN.val at HP ⊢
 go_enter Tryz.func82,Tryz.ntmps82
 exact qeL
theorem qqH (x:Tree):FnP 85 (qj0) x:=by
 intro r w hG hm hc
 have hrow:=heap_alloc_new (w.alloc (qd r)) (.cells #[.func (.func 94) #[] #[]] 64)
 rw[World.size_alloc] at hrow
 have hG2:=(hG.alloc (qd r)).alloc (.cells #[.func (.func 94) #[] #[]] 64)
 have hp:=jy x r ((w.alloc (qd r)).alloc (.cells #[.func (.func 94) #[] #[]] 64)) (hm.boxed2 _ _) 9 (some ⟨w.heap.size+1,0,none⟩) 1 1 [RR 17] (SortsAt.lit (vs:=[.func (.func 94) #[] #[]]) hrow ⟨fun y hy=>(qer y).sort (fun args w=>by rfl) hG2 (qk hc hy),trivial⟩) hc
 have HB:=zxi (Jk w (qd r) (.cells #[.func (.func 94) #[] #[]] 64))
 have e:(qc x.name&&decide (x.kind=9)&&qx [RR 17] x.kids)=qj0 x:=by
  obtain⟨k,f,e,a,n,l⟩:=x
  show(qc n&&decide (k=9)&&qx [RR 17] l)=qj0 (.mk k f e a n l)
  rfl
 rw[e] at hp
 have HP:=zxi hp
 generalize qj0 x=B at *
 clear hG hm hc hp e hrow hG2
 unfold RN.val at HP ⊢
 go_enter Tryz.func85,Tryz.ntmps85
 exact qeL
theorem qxa (k f e a:Int) (n:BL) (l:List Tree):isR qc qw (.mk k f e a n l) 8=(isR qc qw (.mk k f e a n l) 7||qj0 (.mk k f e a n l)||(jp basicW n&&(decide (k=8)&&qx [] l))):=by
 rw[qvA,qN]
 unfold qj0
 show(isR qc qw _ 7||(decide (k=9)&&qc n&&_)||_)=(isR qc qw _ 7||(qc n&&decide (k=9)&&_)||_)
 rw[Bool.and_comm (qc n),Bool.and_assoc (basicW.contains n)]
 rfl
theorem qiC (x:Tree):FnP 71 (RR 8) x:=by
 intro r w hG hm hc
 have hb0:=(Below.refl w.heap.size w).alloc zxn (qd r)
 have hG0:=hG.alloc (qd r)
 have hm0:=hm.boxed zxn (qd r)
 have HX:=zxi (heap_alloc_new w (qd r))
 have H1:=zxi (qnr x r (w.alloc (qd r)) hG0 hm0 hc)
 have H2:=zxi (fun W (hb:Below (w.alloc (qd r)).heap.size (w.alloc (qd r)) W)=>qqH x r W (hG0.below hb) (hm0.after zxn hb) hc)
 have H3:=zxi (fun W (hb:Below (w.alloc (qd r)).heap.size (w.alloc (qd r)) W)=>qqi r.name W (hG0.below hb))
 have H4:=zxi (fun W (hb:Below (w.alloc (qd r)).heap.size (w.alloc (qd r)) W)=>QO x r W (hm0.after zxn hb) 8 none 0 0 [] (.nil_ _ _ _) hc)
 have HB:=zxi hb0
 have hv:RR 8 x=(RR 7 x||qj0 x||(jp basicW x.name&&(decide (x.kind=8)&&qx [] x.kids))):=by
  obtain⟨k,f,e,a,n,l⟩:=x
  exact qxa k f e a n l
 have hname:r.name.data.toList=x.name:=by rw[hm.name,qj]
 rw[hname] at H3
 generalize RR 8 x=B at *
 generalize RR 7 x=B7 at *
 generalize qj0 x=B9 at *
 generalize jp basicW x.name=Bb at *
 generalize (decide (x.kind=8)&&qx [] x.kids)=Bk at *
 subst hv
 clear hG hm hc hG0 hm0 hb0 hname
 unfold RN.val at H1 H2 H4 ⊢
 cases B7 with
 | true =>
  go_enter Tryz.func71,Tryz.ntmps71
  go_wp2_with (first | (go_at_call 82;refine H1.out.mono ?_;rintro e w1 ⟨rfl,hb1⟩;have HB1:=zxi hb1;obtain⟨e0,e1,e2,e3,e4,e5,ez,el⟩:=qD (qg HX.out hb1);clear hb1) | (go_at_call 85;refine(H2.out _ HB1.out).mono ?_;rintro e w2 ⟨rfl,hb2⟩;have HB2:=zxi (qa HB1.out hb2);clear e0 e1 e2 e3 e4 e5 ez el;obtain⟨e0,e1,e2,e3,e4,e5,ez,el⟩:=qD (qg HX.out HB2.out);clear hb2) | (go_at_call 86;refine(H3.out _ HB2.out).mono ?_;rintro e w3 ⟨rfl,hb3⟩;have HB3:=zxi (qa HB2.out hb3);clear e0 e1 e2 e3 e4 e5 ez el;obtain⟨e0,e1,e2,e3,e4,e5,ez,el⟩:=qD (qg HX.out HB3.out);clear hb3) | (go_at_call 74;refine(H4.out _ HB3.out).mono ?_;rintro e w4 ⟨rfl,hb4⟩;have HB4:=zxi (qa HB3.out hb4);clear hb4))
  go_ret
  exact⟨qi zxs,qa HB.out HB1.out⟩
 | false =>
  cases B9 with
  | true =>
   go_enter Tryz.func71,Tryz.ntmps71
   go_wp2_with (first | (go_at_call 82;refine H1.out.mono ?_;rintro e w1 ⟨rfl,hb1⟩;have HB1:=zxi hb1;obtain⟨e0,e1,e2,e3,e4,e5,ez,el⟩:=qD (qg HX.out hb1);clear hb1) | (go_at_call 85;refine(H2.out _ HB1.out).mono ?_;rintro e w2 ⟨rfl,hb2⟩;have HB2:=zxi (qa HB1.out hb2);clear e0 e1 e2 e3 e4 e5 ez el;obtain⟨e0,e1,e2,e3,e4,e5,ez,el⟩:=qD (qg HX.out HB2.out);clear hb2) | (go_at_call 86;refine(H3.out _ HB2.out).mono ?_;rintro e w3 ⟨rfl,hb3⟩;have HB3:=zxi (qa HB2.out hb3);clear e0 e1 e2 e3 e4 e5 ez el;obtain⟨e0,e1,e2,e3,e4,e5,ez,el⟩:=qD (qg HX.out HB3.out);clear hb3) | (go_at_call 74;refine(H4.out _ HB3.out).mono ?_;rintro e w4 ⟨rfl,hb4⟩;have HB4:=zxi (qa HB3.out hb4);clear hb4))
   go_ret
   exact⟨qi zxs,qa HB.out HB2.out⟩
  | false =>
   cases Bb with
   | false =>
    go_enter Tryz.func71,Tryz.ntmps71
    go_wp2_with (first | (go_at_call 82;refine H1.out.mono ?_;rintro e w1 ⟨rfl,hb1⟩;have HB1:=zxi hb1;obtain⟨e0,e1,e2,e3,e4,e5,ez,el⟩:=qD (qg HX.out hb1);clear hb1) | (go_at_call 85;refine(H2.out _ HB1.out).mono ?_;rintro e w2 ⟨rfl,hb2⟩;have HB2:=zxi (qa HB1.out hb2);clear e0 e1 e2 e3 e4 e5 ez el;obtain⟨e0,e1,e2,e3,e4,e5,ez,el⟩:=qD (qg HX.out HB2.out);clear hb2) | (go_at_call 86;refine(H3.out _ HB2.out).mono ?_;rintro e w3 ⟨rfl,hb3⟩;have HB3:=zxi (qa HB2.out hb3);clear e0 e1 e2 e3 e4 e5 ez el;obtain⟨e0,e1,e2,e3,e4,e5,ez,el⟩:=qD (qg HX.out HB3.out);clear hb3) | (go_at_call 74;refine(H4.out _ HB3.out).mono ?_;rintro e w4 ⟨rfl,hb4⟩;have HB4:=zxi (qa HB3.out hb4);clear hb4))
    go_ret
    exact⟨qi zxs,qa HB.out HB3.out⟩
   | true =>
    go_enter Tryz.func71,Tryz.ntmps71
    go_wp2_with (first | (go_at_call 82;refine H1.out.mono ?_;rintro e w1 ⟨rfl,hb1⟩;have HB1:=zxi hb1;obtain⟨e0,e1,e2,e3,e4,e5,ez,el⟩:=qD (qg HX.out hb1);clear hb1) | (go_at_call 85;refine(H2.out _ HB1.out).mono ?_;rintro e w2 ⟨rfl,hb2⟩;have HB2:=zxi (qa HB1.out hb2);clear e0 e1 e2 e3 e4 e5 ez el;obtain⟨e0,e1,e2,e3,e4,e5,ez,el⟩:=qD (qg HX.out HB2.out);clear hb2) | (go_at_call 86;refine(H3.out _ HB2.out).mono ?_;rintro e w3 ⟨rfl,hb3⟩;have HB3:=zxi (qa HB2.out hb3);clear e0 e1 e2 e3 e4 e5 ez el;obtain⟨e0,e1,e2,e3,e4,e5,ez,el⟩:=qD (qg HX.out HB3.out);clear hb3) | (go_at_call 74;refine(H4.out _ HB3.out).mono ?_;rintro e w4 ⟨rfl,hb4⟩;have HB4:=zxi (qa HB3.out hb4);clear hb4))
    go_ret
    exact⟨qi zxs,qa HB.out HB4.out⟩
theorem qoF (x:Tree):FnP 66 (RR 3) x:=by
 intro r w hG hm hc
 have hrow:=heap_alloc_new (w.alloc (qd r)) (.cells #[.func (.func 71) #[] #[]] 64)
 rw[World.size_alloc] at hrow
 have hG2:=(hG.alloc (qd r)).alloc (.cells #[.func (.func 71) #[] #[]] 64)
 have hp:=jy x r ((w.alloc (qd r)).alloc (.cells #[.func (.func 71) #[] #[]] 64)) (hm.boxed2 _ _) 4 (some ⟨w.heap.size+1,0,none⟩) 1 1 [RR 8] (SortsAt.lit (vs:=[.func (.func 71) #[] #[]]) hrow ⟨fun y hy=>(qiC y).sort (fun args w=>by rfl) hG2 (qk hc hy),trivial⟩) hc
 have HB:=zxi (Jk w (qd r) (.cells #[.func (.func 71) #[] #[]] 64))
 have e:(qc x.name&&decide (x.kind=4)&&qx [RR 8] x.kids)=RR 3 x:=by
  obtain⟨k,f,e,a,n,l⟩:=x
  show(qc n&&decide (k=4)&&qx [RR 8] l)=(isR qc qw (.mk k f e a n l) 3)
  rw[qvz]
 rw[e] at hp
 have HP:=zxi hp
 generalize RR 3 x=B at *
 clear hG hm hc hp e hrow hG2
 unfold RN.val at HP ⊢
 go_enter Tryz.func66,Tryz.ntmps66
 exact qeL
theorem qng (x:Tree):FnP 84 (RR 4) x:=by
 intro r w hG hm hc
 have hrow:=heap_alloc_new (w.alloc (qd r)) (.cells #[.func (.func 71) #[] #[]] 64)
 rw[World.size_alloc] at hrow
 have hG2:=(hG.alloc (qd r)).alloc (.cells #[.func (.func 71) #[] #[]] 64)
 have hp:=jy x r ((w.alloc (qd r)).alloc (.cells #[.func (.func 71) #[] #[]] 64)) (hm.boxed2 _ _) 7 (some ⟨w.heap.size+1,0,none⟩) 1 1 [RR 8] (SortsAt.lit (vs:=[.func (.func 71) #[] #[]]) hrow ⟨fun y hy=>(qiC y).sort (fun args w=>by rfl) hG2 (qk hc hy),trivial⟩) hc
 have HB:=zxi (Jk w (qd r) (.cells #[.func (.func 71) #[] #[]] 64))
 have e:(qc x.name&&decide (x.kind=7)&&qx [RR 8] x.kids)=RR 4 x:=by
  obtain⟨k,f,e,a,n,l⟩:=x
  show(qc n&&decide (k=7)&&qx [RR 8] l)=(isR qc qw (.mk k f e a n l) 4)
  rw[qwf]
 rw[e] at hp
 have HP:=zxi hp
 generalize RR 4 x=B at *
 clear hG hm hc hp e hrow hG2
 unfold RN.val at HP ⊢
 go_enter Tryz.func84,Tryz.ntmps84
 exact qeL
theorem qgF (x:Tree):FnP 68 (RR 5) x:=by
 intro r w hG hm hc
 have hrow:=heap_alloc_new (w.alloc (qd r)) (.cells #[.func (.func 82) #[] #[]] 64)
 rw[World.size_alloc] at hrow
 have hG2:=(hG.alloc (qd r)).alloc (.cells #[.func (.func 82) #[] #[]] 64)
 have hp:=jy x r ((w.alloc (qd r)).alloc (.cells #[.func (.func 82) #[] #[]] 64)) (hm.boxed2 _ _) 7 (some ⟨w.heap.size+1,0,none⟩) 1 1 [RR 7] (SortsAt.lit (vs:=[.func (.func 82) #[] #[]]) hrow ⟨fun y hy=>(qnr y).sort (fun args w=>by rfl) hG2 (qk hc hy),trivial⟩) hc
 have HB:=zxi (Jk w (qd r) (.cells #[.func (.func 82) #[] #[]] 64))
 have e:(qc x.name&&decide (x.kind=7)&&qx [RR 7] x.kids)=RR 5 x:=by
  obtain⟨k,f,e,a,n,l⟩:=x
  show(qc n&&decide (k=7)&&qx [RR 7] l)=(isR qc qw (.mk k f e a n l) 5)
  rw[quN]
 rw[e] at hp
 have HP:=zxi hp
 generalize RR 5 x=B at *
 clear hG hm hc hp e hrow hG2
 unfold RN.val at HP ⊢
 go_enter Tryz.func68,Tryz.ntmps68
 exact qeL
theorem qkj (x:Tree):FnP 57 (RR 1) x:=by
 intro r w hG hm hc
 have hp:=jy x r (w.alloc (qd r)) (hm.boxed zxn _) 2 none 0 0 [] (.nil_ _ _ _) hc
 have HB:=zxi ((Below.refl w.heap.size w).alloc zxn (qd r))
 have e:(qc x.name&&decide (x.kind=2)&&qx [] x.kids)=RR 1 x:=by
  obtain⟨k,f,e,a,n,l⟩:=x
  show(qc n&&decide (k=2)&&qx [] l)=(isR qc qw (.mk k f e a n l) 1)
  rw[quj,qN]
 rw[e] at hp
 have HP:=zxi hp
 generalize RR 1 x=B at *
 clear hG hm hc hp e
 unfold RN.val at HP ⊢
 go_enter Tryz.func57,Tryz.ntmps57
 exact qeL
theorem qt {a X:World} {o:Obj} (h:Below a.heap.size a X):Below a.heap.size a (X.alloc o):=h.alloc h.size o
theorem JU {a X:World} (h:Below a.heap.size a X):Below a.heap.size a X.drew:=h.drew
theorem qh {w0 W':World} {b:Nat} {r:RN} (hx:w0.heap[b]?=some (qd r)) (hb:Below w0.heap.size w0 W':=by repeat (first | exact zR _ | assumption | apply zA | apply zD | refine zT ?_ zxa)) :
  Below w0.heap.size w0 W'∧W'.cell? ⟨b,0,none⟩=some (.int .i64 r.kind)∧W'.cell? ⟨b,1,none⟩=some (.int .i64 r.fr)∧W'.cell? ⟨b,2,none⟩=some (.int .i64 r.en)∧W'.cell? ⟨b,3,none⟩=some (.int .i64 r.at_)∧W'.cell? ⟨b,4,none⟩=some (.string r.name)∧W'.cell? ⟨b,5,none⟩=some (.slice r.A r.n r.cap):=by
 obtain⟨e0,e1,e2,e3,e4,e5,_,_⟩:=qD (qg hx hb)
 exact⟨hb,e0,e1,e2,e3,e4,e5⟩
theorem qkT (x:Tree):FnP 70 (RR 6) x:=by
 intro r w hG hm hc
 have hG0:=hG.alloc (qd r)
 have hm0:=hm.boxed zxn (qd r)
 have HX:=zxi (heap_alloc_new w (qd r))
 have HB:=zxi ((Below.refl w.heap.size w).alloc zxn (qd r))
 obtain⟨W0,hW0⟩:∃ W0,w.alloc (qd r)=W0:=⟨_,rfl⟩
 rw[hW0] at hG0 hm0 HX HB
 have HA:=zxi (fun W (hb:Below W0.heap.size W0 W)=>qmy x r W (hm0.after zxn hb) 84 #[] hc)
 have HP:=zxi (fun W (hb:Below W0.heap.size W0 W) g (hg:W.heap[g]?=some (.cells (List.replicate x.kids.length (.func (.func 84) #[] #[])).toArray 64 (0,0)))=>Qj x r W (hm0.after zxn hb) 6 (some ⟨g,0,none⟩) x.kids.length x.kids.length (List.replicate x.kids.length (RR 4))
  (SortsAt.rep hg (fun y hy=>(qng y).sort (fun args w=>by rfl) (hG0.below hb) (qk hc hy))) hc)
 have e:(x.name.isEmpty&&decide (x.kind=6)&&qx (List.replicate x.kids.length (RR 4)) x.kids)=RR 6 x:=by
  obtain⟨k,f,e,a,n,l⟩:=x
  show(n.isEmpty&&decide (k=6)&&qx (List.replicate l.length (RR 4)) l)=isR qc qw (.mk k f e a n l) 6
  rw[qvK,jm]
 rw[e] at HP
 generalize RR 6 x=B at *
 clear hG hm hc e hG0 hm0
 unfold RN.val at HA HP ⊢
 go_enter Tryz.func70,Tryz.ntmps70
 go_wp2_with fail
 rw[show w.alloc (.cells #[.int .i64 r.kind,.int .i64 r.fr,.int .i64 r.en,.int .i64 r.at_,.string r.name,.slice r.A r.n r.cap] 24)=W0 from hW0]
 go_region_held3 (fun w'=>Below W0.heap.size W0 w'∧w'.cell? ⟨w.heap.size,0,none⟩=some (.int .i64 r.kind)∧w'.cell? ⟨w.heap.size,1,none⟩=some (.int .i64 r.fr)∧w'.cell? ⟨w.heap.size,2,none⟩=some (.int .i64 r.en)∧w'.cell? ⟨w.heap.size,3,none⟩=some (.int .i64 r.at_)∧w'.cell? ⟨w.heap.size,4,none⟩=some (.string r.name)∧w'.cell? ⟨w.heap.size,5,none⟩=some (.slice r.A r.n r.cap))
  (exact qh HX.out)
  (first | (go_at_call 55;refine(zb HA).mono ?_;rintro e wA ⟨⟨g,rfl,hg,hrow⟩,hbA⟩) | (go_at_call 83;refine((zb HP) _ zxa).mono ?_;rintro e wB ⟨rfl,hbB⟩))
 all_goals (rename_i hH;have HE:=qa HB.out hH.1;clear hH)
 all_goals go_wp2_with fail
 all_goals go_ret
 all_goals exact⟨rfl,HE⟩
end Go.Proofs.YtacdfjlncfidgaaGreatDoor
