/- A part of what the claim leans on. -/
import Derived.Test.YtacdfjlncfidgaaGreatDoorQS
import Derived.RangeFuncOwn
import Derived.RangeFuncCalls
import Derived.RangeFuncLeaves
import Derived.Test.YtacdfjlncfidgaaGreatDoorQB
import Derived.Test.YtacdfjlncfidgaaGreatDoorTA
import Derived.Deep.RegionHeld3
import Derived.BigRegion
import Derived.Test.YtacdfjlncfidgaaGreatDoorRB
namespace Go.Proofs.YtacdfjlncfidgaaGreatDoor
open Go.RowKit
set_option linter.unusedVariables false
set_option linter.unusedSimpArgs false
set_option maxRecDepth 100000
set_option maxHeartbeats 1600000
section
def Kept (M:Nat→Prop) (W W':World):Prop:=W.heap.size≤W'.heap.size∧∀ b,b<W.heap.size→¬ M b→W'.heap[b]?=W.heap[b]?
theorem Kept.trans {M:Nat→Prop} {A B C:World} (h:Kept M A B) (k:Kept M B C):Kept M A C :=
 ⟨Nat.le_trans h.1 k.1,fun b hb hm=>(k.2 b (Nat.lt_of_lt_of_le hb h.1) hm).trans (h.2 b hb hm)⟩
theorem Kept.mono {M M':Nat→Prop} {A B:World} (h:Kept M A B) (hM:∀ b,M b→M' b):Kept M' A B:=⟨h.1,fun b hb hm=>h.2 b hb fun x=>hm (hM b x)⟩
theorem Kept.refl (M:Nat→Prop) (A:World):Kept M A A:=⟨Nat.le_refl _,fun _ _ _=>rfl⟩
theorem Kept.setCell (M:Nat→Prop) (A:World) (p:Addr) (v:Value) (h:M p.block):Kept M A (A.setCell p v) :=
 ⟨by simp[World.setCell],fun b _ hm=>Below.heap_setCell A p v b fun e=>hm (e ▸ h)⟩
theorem Kept.drew (M:Nat→Prop) (A:World):Kept M A A.drew:=⟨Nat.le_refl _,fun _ _ _=>rfl⟩
theorem Kept.cell {M:Nat→Prop} {A B:World} (h:Kept M A B) {p:Addr} (hp:p.block<A.heap.size) (hm:¬ M p.block):B.cell? p=A.cell? p:=World.cell?_of_block (h.2 _ hp hm)
variable {P:Program}
end
theorem Jy {k f en a:Int} {n:BL} {l:List Tree} {x:Tree} {N:Nat} (h:qY (.mk k f en a n l)≤N) (hx:x∈l):qY x≤N:=by
 have:=qdc hx
 exact qoK
theorem jP {k f en a:Int} {n:BL} {l:List Tree} {N:Nat} (h:qY (.mk k f en a n l)≤N):l.length+n.length≤N:=by
 have:=qdv l
 exact qoK
theorem QY:∀ (l:List Tree) (x:Tree),jM (l++[x])=max (jM l) (jc x)
 | [],x=>by simp[jM]
 | t::l,x=>by rw[List.cons_append,jM,QY l x,jM,Nat.max_assoc]
theorem Jo {α:Type} {l:List α} {j:Nat} {x:α} (h:l[j]?=some x):l.take (j+1)=l.take j++[x]:=by
 rw[List.take_add_one,h];rfl
def qd (r:RN):Obj:=.cells #[.int .i64 r.kind,.int .i64 r.fr,.int .i64 r.en,.int .i64 r.at_,.string r.name,.slice r.A r.n r.cap] 24
theorem qD {w:World} {b:Nat} {T:TypeId} {v0 v1 v2 v3 v4 v5:Value} (h:w.heap[b]?=some (.cells #[v0,v1,v2,v3,v4,v5] T (0,0))) :
  w.cell? ⟨b,0,none⟩=some v0∧w.cell? ⟨b,1,none⟩=some v1∧w.cell? ⟨b,2,none⟩=some v2∧w.cell? ⟨b,3,none⟩=some v3∧w.cell? ⟨b,4,none⟩=some v4∧w.cell? ⟨b,5,none⟩=some v5∧(∀ j,w.frozen? ⟨b,j,none⟩=false)∧b<w.heap.size :=
 ⟨by rw[cell_of_row _ _ _ _ _ _ h];rfl,by rw[cell_of_row _ _ _ _ _ _ h];rfl,by rw[cell_of_row _ _ _ _ _ _ h];rfl,by rw[cell_of_row _ _ _ _ _ _ h];rfl,by rw[cell_of_row _ _ _ _ _ _ h];rfl,by rw[cell_of_row _ _ _ _ _ _ h];rfl,fun j=>by simp[World.frozen?,h],(Array.getElem?_eq_some_iff.1 h).1⟩
theorem qg {w w':World} {b:Nat} {o:Obj} (h:w.heap[b]?=some o) (hb:Below w.heap.size w w'):w'.heap[b]?=some o:=(hb.block b (Array.getElem?_eq_some_iff.1 h).1).trans h
theorem qb {w:World} {b:Nat} {o o':Obj} (h:w.heap[b]?=some o):(w.alloc o').heap[b]?=some o:=(Go.heap_alloc_old w o' (Array.getElem?_eq_some_iff.1 h).1).trans h
section
variable {w:World} {B:Nat} {t:Tree} {r:RN}
theorem NodeM.here (h:NodeM w B t r) (hB:B≤w.heap.size):NodeM w w.heap.size t r:=h.more hB
theorem NodeM.boxed (h:NodeM w B t r) (hB:B≤w.heap.size) (o:Obj):NodeM (w.alloc o) (w.alloc o).heap.size t r:=(h.alloc hB o).more (by rw[World.size_alloc];omega)
end
mutual
theorem qb2:∀ t:Tree,jc t≤qY t
 | .mk k f e a n l=>by
  have:=JN l
  simp only[jc,qY]
  split<;>omega
theorem JN:∀ l:List Tree,jM l≤JA l
 | []=>Nat.le_refl _
 | t::l=>by
  have h1:=qb2 t
  have h2:=JN l
  simp only[jM,JA];omega
end
theorem qcc:∀ (l:List Tree) (j:Nat),JA (l.take j)≤JA l
 | [],j=>by simp
 | t::l,0=>by simp[JA]
 | t::l,j+1=>by
  have:=qcc l j
  simp only[List.take_succ_cons,JA];omega
theorem qgw {k f en a:Int} {n:BL} {l:List Tree} {N:Nat} (h:qY (.mk k f en a n l)≤N) (j:Nat):jM (l.take j)≤N:=by
 have h1:=JN (l.take j)
 have h2:=qcc l j
 exact qoK
theorem qi2:∀ (t:Tree) (r:RN) (w:World),NodeM w w.heap.size t r→qY t≤3000 →
  Calls Tryz.prog 14 #[r.val] w fun e w'=>e = .returned (.int .i64 (jc t))∧Below w.heap.size w w':=by
 refine QI (fun k f en a n l ih r w hm hc=>?_)
 obtain⟨A,cap,rs,rfl,hr,hl,hk⟩:=hm.open_
 have hlen:=jP hc
 unfold RN.val
 by_cases h0:k=0
 · subst h0
   have HV:=zxi (show jc (.mk 0 f en a n l)=0 by simp[jc])
   have HB:=zxi ((Below.refl w.heap.size w).alloc zxn (.cells #[.int .i64 0,.int .i64 f,.int .i64 en,.int .i64 a,.string (qn n),.slice A l.length cap] 24))
   clear hm hr hk ih
   go_enter Tryz.func14,Tryz.ntmps14
   exact qmY
 · have b0:(k == 0)=false:=beq_eq_false_iff_ne.2 h0
   have HV:=zxi (show jc (.mk k f en a n l)=jM l+1 by simp[jc,h0])
   have HB:=zxi ((Below.refl w.heap.size w).alloc zxn (.cells #[.int .i64 k,.int .i64 f,.int .i64 en,.int .i64 a,.string (qn n),.slice A l.length cap] 24))
   have HK:=zxi (And.intro hr hk)
   have HI:=zxi ih
   have HC:=zxi hc
   have HL:=zxi hl
   clear hm hr hk ih hc hl
   go_enter Tryz.func14,Tryz.ntmps14
   go_wp2_with fail
   go_loopw [3,12] (fun d i wr=>∃ j:Nat,j≤l.length∧i = .int .i64 j∧d = .int .i64 (jM (l.take j))∧Below w.heap.size w wr) (fun _ i _=>l.length-(intOf i).toNat)
   case atStart=>exact⟨0,Nat.zero_le _,rfl,rfl,HB.out⟩
   case round =>
    obtain⟨j,hj,rfl,rfl,hb⟩:=hrel
    have HB1:=zxi hb
    clear hb
    by_cases hlt:j<l.length
    · obtain⟨x,hx⟩:∃ x,l[j]?=some x:=⟨_,List.getElem?_eq_getElem hlt⟩
      obtain⟨b,off,rx,rfl,hbb,hrx,hmx,c0,c1,c2,c3,c4,c5⟩:=qfY (w:=wr) (HK.out.1.keep fun p hp=>HB1.out.cell zxo) HL.out (fun i y ry hy hry=>(HK.out.2 i y ry hy hry).under HB1.out zxn) hx
      have hcx:=Jy HC.out (List.mem_of_getElem? hx)
      have HI1:=zxi (fun W hm=>HI.out x (List.mem_of_getElem? hx) rx W hm hcx)
      unfold RN.val at HI1
      have HM:=zxi hmx
      clear hmx hrx
      go_wp2_with (first | (go_at_call 14;refine(HI1.out _ (HM.out.boxed HB1.out.size _)).mono ?_;rintro e w2 ⟨rfl,hb2⟩;have HB2:=zxi (qa (HB1.out.alloc HB1.out.size _) hb2);clear hb2))
      go_roundw
      case rel=>exact⟨j+1,by omega,by go_num,by rw[Jo hx,QY];go_num,HB2.out⟩
      case measure=>simp only[intOf];omega
    · exact qsS
theorem qml:∀ (t:Tree) (r:RN) (w:World),NodeM w w.heap.size t r→qY t≤3000 →
  Calls Tryz.prog 15 #[r.val] w fun e w'=>e = .returned (.int .i64 (jc t))∧Below w.heap.size w w':=by
 refine QI (fun k f en a n l ih r w hm hc=>?_)
 obtain⟨A,cap,rs,rfl,hr,hl,hk⟩:=hm.open_
 have hlen:=jP hc
 unfold RN.val
 by_cases h0:k=0
 · subst h0
   have HV:=zxi (show jc (.mk 0 f en a n l)=0 by simp[jc])
   have HB:=zxi ((Below.refl w.heap.size w).alloc zxn (.cells #[.int .i64 0,.int .i64 f,.int .i64 en,.int .i64 a,.string (qn n),.slice A l.length cap] 24))
   clear hm hr hk ih
   go_enter Tryz.func15,Tryz.ntmps15
   exact qmY
 · have b0:(k == 0)=false:=beq_eq_false_iff_ne.2 h0
   have HV:=zxi (show jc (.mk k f en a n l)=jM l+1 by simp[jc,h0])
   have HB:=zxi ((Below.refl w.heap.size w).alloc zxn (.cells #[.int .i64 k,.int .i64 f,.int .i64 en,.int .i64 a,.string (qn n),.slice A l.length cap] 24))
   have HK:=zxi (And.intro hr hk)
   have HI:=zxi ih
   have HC:=zxi hc
   have HL:=zxi hl
   clear hm hr hk ih hc hl
   go_enter Tryz.func15,Tryz.ntmps15
   go_wp2_with fail
   go_loopw [3,4] (fun d i wr=>∃ j:Nat,j≤l.length∧i = .int .i64 j∧d = .int .i64 (jM (l.take j))∧wr.heap[w.heap.size]?=some (qd ⟨k,f,en,a,qn n,A,l.length,cap⟩)∧Below w.heap.size w wr) (fun _ i _=>l.length-(intOf i).toNat)
   case atStart=>exact⟨0,Nat.zero_le _,rfl,rfl,heap_alloc_new _ _,HB.out⟩
   case round =>
    obtain⟨j,hj,rfl,rfl,hbox,hb⟩:=hrel
    have HBX:=zxi hbox
    obtain⟨e0,e1,e2,e3,e4,e5,ez,el⟩:=qD hbox
    clear hbox
    have HB1:=zxi hb
    clear hb
    by_cases hlt:j<l.length
    · obtain⟨x,hx⟩:∃ x,l[j]?=some x:=⟨_,List.getElem?_eq_getElem hlt⟩
      obtain⟨b,off,rx,rfl,hbb,hrx,hmx,c0,c1,c2,c3,c4,c5⟩:=qfY (w:=wr) (HK.out.1.keep fun p hp=>HB1.out.cell zxo) HL.out (fun i y ry hy hry=>(HK.out.2 i y ry hy hry).under HB1.out zxn) hx
      have hcx:=Jy HC.out (List.mem_of_getElem? hx)
      have HI1:=zxi (fun W hm=>HI.out x (List.mem_of_getElem? hx) rx W hm hcx)
      unfold RN.val at HI1
      have HM:=zxi hmx
      clear hmx hrx
      by_cases hgt:jM (l.take j)<jc x
      · have HG:=zxi hgt
        have hgi:(jM (l.take j):Int)<(jc x:Int):=by omega
        go_wp2_with (first | (go_at_call 15;refine(HI1.out _ (HM.out.here HB1.out.size)).mono ?_;rintro e w2 ⟨rfl,hb2⟩;have HB2:=zxi (And.intro (qg HBX.out hb2) (qa HB1.out hb2));clear hb2))
        go_roundw
        case rel=>exact⟨j+1,by omega,by go_num,by rw[Jo hx,QY,Nat.max_eq_right (Nat.le_of_lt HG.out)],HB2.out.1,HB2.out.2⟩
        case measure=>simp only[intOf];omega
      · have HG:=zxi hgt
        have hgi:¬ (jM (l.take j):Int)<(jc x:Int):=by omega
        go_wp2_with (first | (go_at_call 15;refine(HI1.out _ (HM.out.here HB1.out.size)).mono ?_;rintro e w2 ⟨rfl,hb2⟩;have HB2:=zxi (And.intro (qg HBX.out hb2) (qa HB1.out hb2));clear hb2))
        go_roundw
        case rel=>exact⟨j+1,by omega,by go_num,by rw[Jo hx,QY,Nat.max_eq_left (Nat.le_of_not_lt HG.out)],HB2.out.1,HB2.out.2⟩
        case measure=>simp only[intOf];omega
    · exact qsS
mutual
def QQ (left:Int):Tree→Int
 | .mk _ _ _ _ n l=>Qp (left-1-n.length) l
def Qp (left:Int):List Tree→Int
 | []=>left
 | t::l=>if 0<left then Qp (QQ left t) l else left
end
theorem qbB {left:Int} (h:¬ 0<left) (l:List Tree):Qp left l=left:=by
 cases l with
 | nil=>rfl
 | cons t l=>rw[Qp,if_neg h]
mutual
theorem qfr (left:Int):∀ t:Tree,0<QQ left t→QQ left t=left-qY t
 | .mk k f e a n l=>by
  intro h
  rw[QQ] at h ⊢
  rw[qdZ _ l h,qY];omega
theorem qdZ (left:Int):∀ l:List Tree,0<Qp left l→Qp left l=left-JA l
 | []=>fun _=>by simp[Qp,JA]
 | t::l=>by
  intro h
  rw[Qp] at h ⊢
  by_cases h0:0<left
  · rw[if_pos h0] at h ⊢
    by_cases h1:0<QQ left t
    · rw[qdZ _ l h,qfr left t h1,JA];omega
    · rw[qbB h1] at h;exact absurd h h1
  · rw[if_neg h0] at h;exact absurd h h0
end
theorem qlD {t:Tree} (h:0<QQ 3000 t):qY t≤3000:=by
 have:=qfr 3000 t h;omega
mutual
theorem qjr (left:Int):∀ t:Tree,qbL t→0<left → - (maxLen:Int)≤QQ left t∧QQ left t≤left
 | .mk k f e a n l=>fun hf h=>by
  have hn:n.length≤maxLen:=hf.1
  rw[QQ]
  exact qfk _ left l hf.2.2 zxo zxo
theorem qfk (left hi:Int):∀ l:List Tree,qg0 l → - (maxLen:Int)≤left→left≤hi → - (maxLen:Int)≤Qp left l∧Qp left l≤hi
 | []=>fun _ h h2=>⟨h,h2⟩
 | t::l=>fun hf h h2=>by
  rw[Qp]
  by_cases h0:0<left
  · rw[if_pos h0]
    have:=qjr left t hf.1 h0
    exact qfk _ hi l hf.2 this.1 zxo
  · rw[if_neg h0];exact⟨h,h2⟩
end
theorem qvD:∀ (t:Tree) (r:RN) (w:World) (left:Int),NodeM w w.heap.size t r→qbL t→0<left→left≤3000 →
  Calls Tryz.prog 39 #[r.val,.int .i64 left] w fun e w'=>e = .returned (.int .i64 (QQ left t))∧Below w.heap.size w w':=by
 refine QI (fun k f en a n l ih r w left hm hf hl0 hl1=>?_)
 obtain⟨A,cap,rs,rfl,hr,hl,hk⟩:=hm.open_
 have hn:n.length≤maxLen:=hf.1
 have hll:l.length≤maxLen:=hf.2.1
 have hlf:qg0 l:=hf.2.2
 have hml:maxLen=9223372036854775807:=rfl
 have hnl:(qn n).size=n.length:=by show n.toArray.size=_;simp
 unfold RN.val
 have HB:=zxi ((Below.refl w.heap.size w).alloc zxn (.cells #[.int .i64 k,.int .i64 f,.int .i64 en,.int .i64 a,.string (qn n),.slice A l.length cap] 24))
 have HK:=zxi (And.intro hr hk)
 have HI:=zxi ih
 have HL:=zxi hl
 have HF:=zxi hlf
 have HV:=zxi (show QQ left (.mk k f en a n l)=Qp (left-1-n.length) l by rw[QQ])
 clear hm hr hk ih hl hf hlf
 go_enter Tryz.func39,Tryz.ntmps39
 go_wp2_with fail
 go_loopw [1,5] (fun d i wr=>∃ (j:Nat) (m:Int),j≤l.length∧i = .int .i64 j∧d = .int .i64 m ∧ - (maxLen:Int)≤m∧m≤3000∧QQ left (.mk k f en a n l)=Qp m (l.drop j)∧wr.heap[w.heap.size]?=some (qd ⟨k,f,en,a,qn n,A,l.length,cap⟩)∧Below w.heap.size w wr) (fun _ i _=>l.length-(intOf i).toNat)
 case atStart=>exact⟨0,left-1-n.length,Nat.zero_le _,rfl,by go_num,by omega,by omega,HV.out,heap_alloc_new _ _,HB.out⟩
 case round =>
  obtain⟨j,m,hj,rfl,rfl,hm0,hm1,hsv,hbox,hb⟩:=hrel
  have HBX:=zxi hbox
  obtain⟨e0,e1,e2,e3,e4,e5,ez,el⟩:=qD hbox
  have HB1:=zxi hb
  have HS:=zxi hsv
  clear hbox hb hsv
  by_cases hlt:j<l.length
  · by_cases hpos:0<m
    · obtain⟨x,hx⟩:∃ x,l[j]?=some x:=⟨_,List.getElem?_eq_getElem hlt⟩
      obtain⟨b,off,rx,rfl,hbb,hrx,hmx,c0,c1,c2,c3,c4,c5⟩:=qfY (w:=wr) (HK.out.1.keep fun p hp=>HB1.out.cell zxo) HL.out (fun i y ry hy hry=>(HK.out.2 i y ry hy hry).under HB1.out zxn) hx
      have hfx:=qdz HF.out (List.mem_of_getElem? hx)
      have HI1:=zxi (HI.out x (List.mem_of_getElem? hx) rx wr m (hmx.here HB1.out.size) hfx hpos hm1)
      unfold RN.val at HI1
      have hlo:=qjr m x hfx hpos
      have HX:=zxi (show Qp m (l.drop j)=Qp (QQ m x) (l.drop (j+1)) by
       have hd:l.drop j=x::l.drop (j+1):=by
        rw[List.drop_eq_getElem_cons hlt]
        have:=List.getElem?_eq_getElem hlt
        rw[hx] at this;cases this;rfl
       rw[hd,Qp,if_pos hpos])
      clear hmx hrx hx hfx
      generalize QQ m x=m2 at *
      go_wp2_with (first | (go_at_call 39;refine HI1.out.mono ?_;rintro e w2 ⟨rfl,hb2⟩;have HB2:=zxi (And.intro (qg HBX.out hb2) (qa HB1.out hb2));clear hb2))
      go_roundw
      case rel=>exact⟨j+1,m2,by omega,by go_num,rfl,by omega,by omega,by rw[HS.out,HX.out],HB2.out.1,HB2.out.2⟩
      case measure=>simp only[intOf];omega
    · have HV2:=zxi (show QQ left (.mk k f en a n l)=m by rw[HS.out,qbB hpos])
      go_wp2_with fail
      go_ret
      exact⟨by rw[HV2.out];rfl,HB1.out⟩
  · have HV2:=zxi (show QQ left (.mk k f en a n l)=m by rw[HS.out,List.drop_of_length_le zxo];rfl)
    go_wp2_with fail
    go_ret
    exact⟨by rw[HV2.out];rfl,HB1.out⟩
def KidsM (w:World) (B:Nat) (A:Option Addr) (l:List Tree):Prop :=
 ∃ rs,RowOf RN.cells 6 w B A rs∧rs.length=l.length∧∀ (i:Nat) (x:Tree) (r:RN),l[i]?=some x→rs[i]?=some r→NodeM w B x r
section
variable {w w':World} {B B':Nat} {A:Option Addr} {l:List Tree}
theorem NodeM.open2 {k f en a:Int} {n:BL} {r:RN} (h:NodeM w B (.mk k f en a n l) r):∃ A cap,r=⟨k,f,en,a,qn n,A,l.length,cap⟩∧KidsM w B A l:=by
 obtain⟨A,cap,rs,rfl,hr,hl,hk⟩:=h.open_
 exact⟨A,cap,rfl,rs,hr,hl,hk⟩
theorem KidsM.later (h:KidsM w B A l) (hb:Below B' w w') (hB:B≤B'):KidsM w' B A l:=by
 obtain⟨rs,hr,hl,hk⟩:=h
 exact⟨rs,hr.keep fun p hp=>hb.cell zxo,hl,fun i x r hx hrx=>(hk i x r hx hrx).under hb hB⟩
theorem KidsM.more (h:KidsM w B A l) (hB:B≤B'):KidsM w B' A l:=by
 obtain⟨rs,hr,hl,hk⟩:=h
 exact⟨rs,hr.more hB,hl,fun i x r hx hrx=>(hk i x r hx hrx).more hB⟩
theorem KidsM.alloc (h:KidsM w B A l) (hB:B≤w.heap.size) (o:Obj):KidsM (w.alloc o) B A l :=
 h.later ((Below.refl B w).alloc hB o) zxn
theorem KidsM.after (h:KidsM w B A l) (hB:B≤w.heap.size) (hb:Below w.heap.size w w'):KidsM w' w'.heap.size A l:=(h.later hb hB).more (Nat.le_trans hB hb.size)
theorem KidsM.at (h:KidsM w B A l) {i:Nat} {x:Tree} (hx:l[i]?=some x):∃ b off rx,A=some ⟨b,off,none⟩∧b<B∧NodeM w B x rx ∧
      w.cell? ⟨b,off+i*6,none⟩=some (.int .i64 rx.kind)∧w.cell? ⟨b,off+i*6+1,none⟩=some (.int .i64 rx.fr)∧w.cell? ⟨b,off+i*6+2,none⟩=some (.int .i64 rx.en) ∧
      w.cell? ⟨b,off+i*6+3,none⟩=some (.int .i64 rx.at_)∧w.cell? ⟨b,off+i*6+4,none⟩=some (.string rx.name)∧w.cell? ⟨b,off+i*6+5,none⟩=some (.slice rx.A rx.n rx.cap):=by
 obtain⟨rs,hr,hl,hk⟩:=h
 obtain⟨b,off,rx,hA,hb,_,hm,h⟩:=qfY hr hl hk hx
 exact⟨b,off,rx,hA,hb,hm,h⟩
theorem KidsM.node (h:KidsM w B A l) (k f en a:Int) (n:BL) (cap:Nat):NodeM w B (.mk k f en a n l) ⟨k,f,en,a,qn n,A,l.length,cap⟩:=by
 obtain⟨rs,hr,hl,hk⟩:=h
 exact .mk k f en a n l A cap rs hr hl hk
end
theorem NodeM.boxed2 {w:World} {t:Tree} {r:RN} (h:NodeM w w.heap.size t r) (o o':Obj):NodeM ((w.alloc o).alloc o') ((w.alloc o).alloc o').heap.size t r:=(h.boxed zxn o).boxed zxn o'
theorem jk {α:Type} {l:List α} {j:Nat} {x:α} (h:l[j]?=some x):l.drop j=x::l.drop (j+1):=by
 have hlt:j<l.length:=(List.getElem?_eq_some_iff.1 h).1
 rw[List.drop_eq_getElem_cons hlt]
 have:=List.getElem?_eq_getElem hlt
 rw[h] at this;cases this;rfl
theorem qiY (l m:List Tree) (A A':Option Addr) (cap cap':Nat) (w:World) (hl:l.length≤3000) (h1:KidsM w w.heap.size A l) (h2:KidsM w w.heap.size A' m)
  (hS:∀ x∈l,∀ (y:Tree) (rx ry:RN) (W:World),NodeM W W.heap.size x rx→NodeM W W.heap.size y ry→Calls Tryz.prog 17 #[rx.val,ry.val] W fun e w'=>e = .returned (.bool (qaS x y))∧Below W.heap.size W w') :
  Calls Tryz.prog 47 #[.slice A l.length cap,.slice A' m.length cap',.func (.func 17) #[] #[]] w fun e w'=>e = .returned (.bool (JC l m))∧Below w.heap.size w w':=by
 have H1:=zxi h1
 have H2:=zxi h2
 have HS:=zxi hS
 clear h1 h2 hS
 by_cases hlen:l.length=m.length
 · have b0:((l.length:Int) == (m.length:Int))=true:=beq_iff_eq.2 zxo
   have b1:((l.length:Int) != (m.length:Int))=false:=by simp only[bne,b0];rfl
   have HLEN:=zxi hlen
   clear hlen
   go_enter Tryz.func47,Tryz.ntmps47
   go_wp2_with fail
   go_loopw [17] (fun i wr=>∃ j:Nat,j≤l.length∧i = .int .i64 j∧JC l m=JC (l.drop j) (m.drop j)∧Below w.heap.size w wr) (fun i _=>l.length-(intOf i).toNat)
   case atStart=>exact⟨0,Nat.zero_le _,rfl,rfl,Below.refl _ _⟩
   case round =>
    obtain⟨j,hj,rfl,hv,hb⟩:=hrel
    have HB1:=zxi hb
    have HV1:=zxi hv
    have hsz:=hb.size
    clear hb hv
    by_cases hlt:j<l.length
    · obtain⟨x,hx⟩:∃ x,l[j]?=some x:=⟨_,List.getElem?_eq_getElem hlt⟩
      obtain⟨y,hy⟩:∃ y,m[j]?=some y:=⟨_,List.getElem?_eq_getElem (by rw[← HLEN.out];exact hlt)⟩
      have hlt2:j<m.length:=by rw[← HLEN.out];exact hlt
      obtain⟨b,off,rx,rfl,hbb,hmx,c0,c1,c2,c3,c4,c5⟩:=(H1.out.later HB1.out zxn).at hx
      obtain⟨b',off',ry,rfl,hbb',hmy,d0,d1,d2,d3,d4,d5⟩:=(H2.out.later HB1.out zxn).at hy
      have hb1:b<wr.heap.size:=by omega
      have hb2:b'<wr.heap.size:=by omega
      have HX:=zxi (show JC l m=(qaS x y&&JC (l.drop (j+1)) (m.drop (j+1))) by rw[HV1.out,jk hx,jk hy,JC])
      have HM:=zxi (And.intro (hmx.here hsz) (hmy.here hsz))
      have HC:=zxi (HS.out x (List.mem_of_getElem? hx) y rx ry)
      unfold RN.val at HC
      clear hmx hmy hx hy
      cases hq:qaS x y with
      | true =>
       rw[hq] at HC HX
       have eg:∀ args w,(callFunc 17 args).run Tryz.prog w = .ok (.enter 17 args) w:=fun args w=>by rfl
       go_wp2_with (go_at_fn 17;refine(HC.out _ (HM.out.1.boxed2 _ _) (HM.out.2.boxed2 _ _)).mono ?_;rintro e w2 ⟨rfl,hb3⟩;have HB2:=zxi (qa ((HB1.out.alloc HB1.out.size _).alloc (by rw[World.size_alloc];have:=HB1.out.size;omega) _) hb3);clear hb3)
       go_roundw
       case rel=>exact⟨j+1,by omega,by go_num,by rw[HX.out];rfl,HB2.out⟩
       case measure=>simp only[intOf];omega
      | false =>
       rw[hq] at HC HX
       have HV:=zxi (show JC l m=false by rw[HX.out];rfl)
       have eg:∀ args w,(callFunc 17 args).run Tryz.prog w = .ok (.enter 17 args) w:=fun args w=>by rfl
       go_wp2_with (go_at_fn 17;refine(HC.out _ (HM.out.1.boxed2 _ _) (HM.out.2.boxed2 _ _)).mono ?_;rintro e w2 ⟨rfl,hb3⟩;have HB2:=zxi (qa ((HB1.out.alloc HB1.out.size _).alloc (by rw[World.size_alloc];have:=HB1.out.size;omega) _) hb3);clear hb3)
       go_ret
       exact⟨qi HV.out.symm,HB2.out⟩
    · have HV:=zxi (show JC l m=true by rw[HV1.out,List.drop_of_length_le zxo,List.drop_of_length_le (by rw[← HLEN.out];omega)];rfl)
      go_wp2_with fail
      go_ret
      exact⟨qi HV.out.symm,HB1.out⟩
 · have b0:((l.length:Int) == (m.length:Int))=false:=beq_eq_false_iff_ne.2 zxo
   have b1:((l.length:Int) != (m.length:Int))=true:=by simp only[bne,b0];rfl
   have HV:=zxi (show JC l m=false by rw[Bool.eq_false_iff];exact fun h=>hlen (qc7 h))
   go_enter Tryz.func47,Tryz.ntmps47
   go_wp2_with fail
   exact qnM
theorem KidsM.boxed2 {w:World} {A:Option Addr} {l:List Tree} (h:KidsM w w.heap.size A l) (o o':Obj):KidsM ((w.alloc o).alloc o') ((w.alloc o).alloc o').heap.size A l :=
 ((h.alloc zxn o).alloc (by rw[World.size_alloc];omega) o').more (by rw[World.size_alloc,World.size_alloc];omega)
theorem Jk (w:World) (o o':Obj):Below w.heap.size w ((w.alloc o).alloc o'):=((Below.refl _ _).alloc zxn o).alloc (by rw[World.size_alloc];omega) o'
theorem qoi {n n':BL} (h:¬ n=n'):¬ (qn n).toList=(qn n').toList:=fun e=>h (by rw[ByteArray.toList_eq,ByteArray.toList_eq,qj,qj] at e;exact e)
theorem qv2:∀ (t u:Tree) (r s:RN) (w:World),NodeM w w.heap.size t r→NodeM w w.heap.size u s→qY t≤3000 →
  Calls Tryz.prog 17 #[r.val,s.val] w fun e w'=>e = .returned (.bool (qaS t u))∧Below w.heap.size w w':=by
 refine QI (fun k f en a n l ih u r s w hm hm' hc=>?_)
 obtain⟨k',f',en',a',n',l'⟩:=u
 obtain⟨A,cap,rfl,hk⟩:=hm.open2
 obtain⟨A',cap',rfl,hk'⟩:=hm'.open2
 have hlen:=jP hc
 unfold RN.val
 by_cases h0:k=k'
 · subst h0
   by_cases h1:n=n'
   · subst h1
     have HV:=zxi (show qaS (.mk k f en a n l) (.mk k f' en' a' n l')=JC l l' by simp[qaS])
     have HE:=zxi (fun o o'=>qiY l l' A A' cap cap' ((w.alloc o).alloc o') zxo (hk.boxed2 o o') (hk'.boxed2 o o') (fun x hx y rx ry W h1 h2=>ih x hx y rx ry W h1 h2 (Jy hc hx)))
     have HB:=zxi (Jk w)
     clear hm hm' ih hc hlen hk hk'
     go_enter Tryz.func17,Tryz.ntmps17
     go_wp2_with (first | (go_at_call 47;refine(HE.out _ _).mono ?_;rintro e w2 ⟨rfl,hb2⟩;have HB2:=zxi (qa (HB.out _ _) hb2);clear hb2))
     go_ret
     exact⟨qi HV.out.symm,HB2.out⟩
   · have HV:=zxi (show qaS (.mk k f en a n l) (.mk k f' en' a' n' l')=false by simp[qaS,h1])
     have HB:=zxi (Jk w)
     have hne:=qoi h1
     have hne2:((qn n).toList == (qn n').toList)=false:=by simpa using hne
     clear hm hm' ih hc hlen hk hk' h1
     exact qsg
 · have HV:=zxi (show qaS (.mk k f en a n l) (.mk k' f' en' a' n' l')=false by simp[qaS,h0])
   have HB:=zxi (Jk w)
   have b0:(k == k')=false:=beq_eq_false_iff_ne.2 h0
   clear hm hm' ih hc hlen hk hk'
   exact qsg
def Six (w:World) (b o:Nat) (r:RN):Prop:=w.cell? ⟨b,o,none⟩=some (.int .i64 r.kind)∧w.cell? ⟨b,o+1,none⟩=some (.int .i64 r.fr)∧w.cell? ⟨b,o+2,none⟩=some (.int .i64 r.en) ∧
      w.cell? ⟨b,o+3,none⟩=some (.int .i64 r.at_)∧w.cell? ⟨b,o+4,none⟩=some (.string r.name)∧w.cell? ⟨b,o+5,none⟩=some (.slice r.A r.n r.cap)
theorem Six.keep {w w':World} {b o:Nat} {r:RN} (h:Six w b o r) (hb:Below w.heap.size w w') (hlt:b<w.heap.size):Six w' b o r:=by
 obtain⟨h0,h1,h2,h3,h4,h5⟩:=h
 exact⟨(hb.cell hlt).trans h0,(hb.cell hlt).trans h1,(hb.cell hlt).trans h2,(hb.cell hlt).trans h3,(hb.cell hlt).trans h4,(hb.cell hlt).trans h5⟩
abbrev OwnN (w:World) (B:Nat) (v:Value) (l:List RN):Prop:=Own RN.cells 6 24 w B v l
def ReadL (w:World) (B:Nat) (L:List Tree) (rs:List RN):Prop:=rs.length=L.length∧∀ (i:Nat) (x:Tree) (r:RN),L[i]?=some x→rs[i]?=some r→NodeM w B x r
theorem ReadL.nil_ {w:World} {B:Nat}:ReadL w B [] []:=⟨rfl,fun i x r h=>by simp at h⟩
theorem ReadL.cons {w:World} {B:Nat} {x:Tree} {r:RN} {L:List Tree} {rs:List RN} (h:NodeM w B x r) (hL:ReadL w B L rs):ReadL w B (x::L) (r::rs):=by
 refine⟨by simp[hL.1],fun i y s hy hs=>?_⟩
 cases i with
 | zero=>cases hy;cases hs;exact h
 | succ i=>exact hL.2 i y s (by simpa using hy) (by simpa using hs)
theorem ReadL.back {w w':World} {B B':Nat} {L:List Tree} {rs:List RN} (h:ReadL w' B L rs) (hb:Below B' w w') (hB:B≤B'):ReadL w B L rs :=
 ⟨h.1,fun i x r hx hr=>(h.2 i x r hx hr).keep fun p hp=>(hb.cell zxo).symm⟩
theorem ReadL.on {w w':World} {B B':Nat} {L:List Tree} {rs:List RN} (h:ReadL w B L rs) (hb:Below B' w w') (hB:B≤B'):ReadL w' B L rs :=
 ⟨h.1,fun i x r hx hr=>(h.2 i x r hx hr).under hb hB⟩
def NodesOut (L:List Tree) (B:Nat) (w:World) (e:Ending) (w':World):Prop :=
 (∃ A cap rs,e = .returned (.slice A L.length cap)∧RowOf RN.cells 6 w' w'.heap.size A rs∧ReadL w B L rs∧(A=none→L.length=0))∧Below w.heap.size w w'
theorem NodesOut.nil_ (B:Nat) (w w':World) (hb:Below w.heap.size w w'):NodesOut [] B w (.returned (.slice none 0 0)) w' :=
 ⟨⟨none,0,[],rfl,RowOf.nil_,.nil_,fun _=>rfl⟩,hb⟩
theorem NodesOut.own {L:List Tree} {B:Nat} {w w':World} {v:Value} {rs:List RN} {B':Nat} (ho:OwnN w' B' v rs) (hr:ReadL w B L rs) (hb:Below w.heap.size w w'):NodesOut L B w (.returned v) w':=by
 obtain⟨A,c,rfl,hrow⟩:=ho.row RN.len
 refine⟨⟨A,c,rs,by rw[hr.1],hrow,hr,fun hA=>?_⟩,hb⟩
 rcases Nat.eq_zero_or_pos L.length with h | h
 · exact h
 · obtain⟨b,off,e,_⟩:=hrow (by rw[hr.1];exact h)
   rw[hA] at e;cases e
theorem OwnN.mono {w:World} {B B':Nat} {v:Value} {l:List RN} (h:OwnN w B v l) (hB:B'≤B):OwnN w B' v l:=by
 refine⟨h.1,?_⟩
 rcases h.2 with h0 | ⟨g,cap,cur,hv,hg1,rest⟩
 · exact .inl h0
 · exact .inr ⟨g,cap,cur,hv,Nat.le_trans hB hg1,rest⟩
theorem KidsM.back {w w':World} {B B':Nat} {A:Option Addr} {l:List Tree} (h:KidsM w' B A l) (hb:Below B' w w') (hB:B≤B'):KidsM w B A l:=by
 obtain⟨rs,hr,hl,hk⟩:=h
 exact⟨rs,hr.keep fun p hp=>(hb.cell zxo).symm,hl,fun i x r hx hrx=>(hk i x r hx hrx).keep fun p hp=>(hb.cell zxo).symm⟩
end Go.Proofs.YtacdfjlncfidgaaGreatDoor
