/- A part of what the claim leans on. -/
import Derived.Test.YtacdfjlncfidgaaGreatDoorQS
import Derived.Test.YtacdfjlncfidgaaGreatDoorRD
import Derived.Test.YtacdfjlncfidgaaGreatDoorRE
import Derived.Deep.RegionWith
import Derived.Deep.RegionHeldLaw
namespace Go.Proofs.YtacdfjlncfidgaaGreatDoor
open Go.RowKit
set_option linter.unusedVariables false
set_option linter.unusedSimpArgs false
set_option maxRecDepth 100000
set_option maxHeartbeats 6400000
theorem ql6 {eF:BL→Int} {L:BL} {at_:Nat} {acc:List Tk} {last:Option Tk} (h:L.drop at_=[]):Jt eF L at_ acc last = .ok (jC acc last):=by
 rw[Jt];split
 · rfl
 · rename_i c r h2;rw[h] at h2;cases h2
theorem qji {eF:BL→Int} {L:BL} {at_:Nat} {acc:List Tk} {last:Option Tk} {c:UInt8} {r:BL} (h:L.drop at_=c::r):Jt eF L at_ acc last =
  if qc2 c then Jt eF L (at_+1) acc last
  else if c.toNat=10 then Jt eF L (at_+1) (jC acc last) none
  else if c.toNat=47∧r.head?=some 47 then Jt eF L (at_+1+qaP r) acc last
  else if (qs eF (c::r)).1=0∧0<(qs eF (c::r)).2.2 then
   Jt eF L (at_+(qs eF (c::r)).2.2) (acc++[⟨(qs eF (c::r)).2.1,(c::r).take (qs eF (c::r)).2.2,at_,at_+(qs eF (c::r)).2.2⟩]) (some ⟨(qs eF (c::r)).2.1,(c::r).take (qs eF (c::r)).2.2,at_,at_+(qs eF (c::r)).2.2⟩)
  else .error (at_,(qs eF (c::r)).1):=by
 rw[Jt];split
 · rename_i h2;rw[h] at h2;cases h2
 · rename_i c' r' h2
   rw[h] at h2;cases h2
   split
   · rfl
   · split
     · rfl
     · split
       · rfl
       · split
         · rfl
         · rfl
theorem qrb (r:BL):qaP r≤r.length:=(List.takeWhile_sublist _).length_le
theorem qkX (eF:BL→Int) (L:BL):(qs eF L).2.2≤L.length:=by
 unfold qs
 split
 · have:=J7 L
   split
   · exact this
   · split
     · exact this
     · split<;>exact this
 · split
   · exact qcH L
   · split
     · rename_i h;exact(qaX h).2
     · split
       · rename_i h
         cases L with
         | nil=>simp at h
         | cons=>simp
       · split
         · exact qcM L
         · exact Nat.zero_le _
theorem speltZ {c:UInt8} {r:BL}:qp (c::r)=0↔jb c=false:=by
 have e:qp (c::r)=if jb c then ((c::r).takeWhile Jr).length else 0:=rfl
 rw[e]
 cases hc:jb c with
 | false=>simp
 | true =>
  have hd:Jr c=true:=by unfold Jr;rw[hc];rfl
  simp[hd]
theorem digN_zero {c:UInt8} {r:BL}:digN (c::r)=0↔qf c=false:=by
 unfold digN
 cases hc:qf c<;>simp[hc]
theorem num_zero {L:BL}:(Qm L).2=0↔digN L=0:=by
 unfold Qm
 by_cases h:digN L=0
 · rw[if_pos (.inl h)]
 · split
   · exact Iff.rfl
   · constructor<;>intro h2<;>(try simp only at h2)<;>omega
theorem qfJ {m L:BL} (h:m.isPrefixOf L=true):∃ r,L=m++r:=by
 obtain⟨r,hr⟩:=List.isPrefixOf_iff_prefix.1 h
 exact⟨r,hr.symm⟩
theorem qf5 (m:BL) (hm:m∈marks2++marks1):∃ c r,m=c::r∧c.toNat≠34∧c.toNat≠59∧jb c=false∧qf c=false:=by
 have h:∀ m∈marks2++marks1,m.head?.any (fun c=>decide (c.toNat≠34)&&decide (c.toNat≠59) && !jb c && !qf c)=true:=by decide
 have:=h m hm
 cases m with
 | nil=>simp at this
 | cons c r =>
  simp only[List.head?_cons,Option.any_some,Bool.and_eq_true,decide_eq_true_eq,Bool.not_eq_true'] at this
  exact⟨c,r,rfl,this.1.1.1,this.1.1.2,this.1.2,this.2⟩
theorem qax (m:BL) (hm:m∈marks2):∃ a b,m=[a,b]∧a≠32∧b≠32:=by
 have h:∀ m∈marks2,m.length=2∧(m.contains 32)=false:=by decide
 obtain⟨h1,h2⟩:=h m hm
 match m,h1 with
 | [a,b],_ =>
  refine⟨a,b,rfl,?_,?_⟩
  · intro e;subst e;simp at h2
  · intro e;subst e;simp at h2
theorem qbV (m:BL) (hm:m∈marks1):∃ a,m=[a]∧a≠32:=by
 have h:∀ m∈marks1,m.length=1∧(m.contains 32)=false:=by decide
 obtain⟨h1,h2⟩:=h m hm
 match m,h1 with
 | [a],_=>exact⟨a,rfl,by intro e;subst e;simp at h2⟩
theorem qgH {L z:BL} (h:0<jX L):jX (L.take (jX L)++32::z)=jX L∧(L.take (jX L)).length=jX L∧∃ m∈marks2++marks1,L.take (jX L)=m:=by
 unfold jX at h ⊢
 by_cases h2:marks2.any (fun m=>m.isPrefixOf L)=true
 · rw[if_pos h2]
   obtain⟨m,hm,hp⟩:=List.any_eq_true.1 h2
   obtain⟨r,rfl⟩:=qfJ hp
   obtain⟨a,b,rfl,_,_⟩:=qax m hm
   refine⟨?_,rfl,[a,b],List.mem_append_left _ hm,rfl⟩
   rw[if_pos]
   exact List.any_eq_true.2 ⟨[a,b],hm,by simp[List.isPrefixOf]⟩
 · rw[if_neg h2] at h ⊢
   by_cases h1:marks1.any (fun m=>m.isPrefixOf L)=true
   · rw[if_pos h1]
     obtain⟨m,hm,hp⟩:=List.any_eq_true.1 h1
     obtain⟨r,rfl⟩:=qfJ hp
     obtain⟨a,rfl,_⟩:=qbV m hm
     refine⟨?_,rfl,[a],List.mem_append_right _ hm,rfl⟩
     rw[if_neg,if_pos]
     · exact List.any_eq_true.2 ⟨[a],hm,by simp[List.isPrefixOf]⟩
     · intro h3
       obtain⟨m2,hm2,hp2⟩:=List.any_eq_true.1 h3
       obtain⟨x,y,rfl,_,hy⟩:=qax m2 hm2
       simp[List.isPrefixOf] at hp2
       exact hy hp2.2
   · rw[if_neg h1] at h;omega
theorem qce {c:UInt8} {r:BL} (h:c.toNat≠34):Qr (c::r)=none:=if_neg h
theorem qk0 {eF:BL→Int} {L:BL} (hL:L≠[]) (h:(qs eF L).1=0):0<(qs eF L).2.2:=by
 unfold qs at h ⊢
 split
 · rename_i hs
   split
   · exact hs
   · split
     · exact hs
     · split<;>exact hs
 · rename_i hs
   rw[if_neg hs] at h
   split
   · rename_i hn;exact hn
   · rename_i hn
     rw[if_neg hn] at h
     cases hq:Qr L with
     | some vn=>obtain⟨v,n⟩:=vn;exact Nat.lt_trans Nat.zero_lt_one (qaX hq).1
     | none =>
      rw[hq] at h
      simp only at h ⊢
      split
      · exact Nat.zero_lt_one
      · rename_i h5
        rw[if_neg h5] at h
        split
        · rename_i hm;exact hm
        · rename_i hm;rw[if_neg hm] at h;exact absurd h zxd
structure NameIs (L:BL):Prop where
 ne:L≠[]
 sp:qp L=L.length
 le:L.length≤40
 un:L≠[95]
 rs:jp resW L=false
theorem qrw {p:UInt8→Bool} {L:BL} (h:(L.takeWhile p).length=L.length):∀ c∈L,p c=true:=by
 induction L with
 | nil=>simp
 | cons a L ih =>
  rw[List.takeWhile_cons] at h
  split at h
  · rename_i ha
    intro c hc
    rcases List.mem_cons.1 hc with rfl | hc
    · exact ha
    · exact ih (by simpa using h) c hc
  · simp at h
theorem qk9 {p:UInt8→Bool} {L:BL} (h:∀ c∈L,p c=true):(L.takeWhile p).length=L.length:=by
 induction L with
 | nil=>rfl
 | cons a L ih=>rw[List.takeWhile_cons,if_pos (h a zxs),List.length_cons,ih (fun c hc=>h c (by simp[hc])),List.length_cons]
theorem qjD {L:BL} (hne:L≠[]):qp L=L.length↔((∃ c r,L=c::r∧jb c=true)∧∀ c∈L,Jr c=true):=by
 cases L with
 | nil=>exact absurd rfl hne
 | cons c r =>
  have e:qp (c::r)=if jb c then ((c::r).takeWhile Jr).length else 0:=rfl
  rw[e]
  constructor
  · intro h
    split at h
    · rename_i hc;exact⟨⟨c,r,rfl,hc⟩,qrw h⟩
    · simp at h
  · rintro⟨⟨c',r',hcr,hc⟩,h⟩
    cases hcr
    rw[if_pos hc];exact qk9 h
theorem NameIs.tk {L:BL} (h:NameIs L) (eF:BL→Int):qs eF L=(0,1,L.length):=by
 have hp:0<L.length:=List.length_pos_iff.2 h.ne
 unfold qs
 rw[h.sp,if_pos hp,List.take_of_length_le zxn]
 have hr:resW.contains L=false:=h.rs
 rw[hr,if_neg zxs,if_neg (by have:=h.le;omega),if_neg h.un]
theorem qiT {c:UInt8} (h:jb c=true):qc2 c=false∧c.toNat≠10∧c.toNat≠47:=by
 simp only[jb,Bool.or_eq_true,Bool.and_eq_true,decide_eq_true_eq] at h
 refine⟨?_,by omega,by omega⟩
 unfold qc2
 simp only[Bool.or_eq_false_iff,decide_eq_false_iff_not]
 omega
theorem NameIs.hd {L:BL} (h:NameIs L):∃ c r,L=c::r∧qc2 c=false∧c.toNat≠10∧c.toNat≠47:=by
 obtain⟨⟨c,r,e,hc⟩,_⟩:=(qjD h.ne).1 h.sp
 exact⟨c,r,e,(qiT hc).1,(qiT hc).2.1,(qiT hc).2.2⟩
theorem qij {c:UInt8} {r:BL} (h:c.toNat=47):qaP (c::r)=1+qaP r:=by
 unfold qaP
 rw[List.takeWhile_cons,if_pos (by simp[h])]
 simp;omega
theorem qnU (L:BL):qaP L≤L.length:=(List.takeWhile_sublist _).length_le
theorem qiu {L:BL} {k:Nat} (h:L.length≤k):L.drop k=[]:=List.drop_eq_nil_of_le h
theorem qkG {eF:BL→Int} {L:BL} {k:Nat} {acc:List Tk} {last:Option Tk} (h:L.length≤k):Jt eF L k acc last = .ok (jC acc last):=by
 rw[Jt];split
 · rfl
 · rename_i c r hd;rw[qiu h] at hd;cases hd
theorem qgR {eF:BL→Int} {L:BL} {k:Nat} {acc:List Tk} {last:Option Tk} {c:UInt8} {r:BL} (hd:L.drop k=c::r) (h:qc2 c=true):Jt eF L k acc last=Jt eF L (k+1) acc last:=by
 rw[Jt];split
 · exact qhg
 · rename_i c' r' hd';rw[hd] at hd';cases hd';rw[if_pos h]
theorem qjo {eF:BL→Int} {L:BL} {k:Nat} {acc:List Tk} {last:Option Tk} {c:UInt8} {r:BL} (hd:L.drop k=c::r) (h:qc2 c=false) (h2:c.toNat=10):Jt eF L k acc last=Jt eF L (k+1) (jC acc last) none:=by
 rw[Jt];split
 · exact qhg
 · rename_i c' r' hd';rw[hd] at hd';cases hd';rw[if_neg (by rw[h];exact Bool.false_ne_true),if_pos h2]
theorem qlc {eF:BL→Int} {L:BL} {k:Nat} {acc:List Tk} {last:Option Tk} {c:UInt8} {r:BL} (hd:L.drop k=c::r) (h:qc2 c=false) (h2:¬ c.toNat=10) (h3:c.toNat=47∧r.head?=some 47):Jt eF L k acc last=Jt eF L (k+1+qaP r) acc last:=by
 rw[Jt];split
 · exact qhg
 · rename_i c' r' hd';rw[hd] at hd';cases hd';rw[if_neg (by rw[h];exact Bool.false_ne_true),if_neg h2,if_pos h3]
def qrS (eF:BL→Int) (L:BL) (k:Nat):Tk:=⟨(qs eF (L.drop k)).2.1,(L.drop k).take (qs eF (L.drop k)).2.2,k,k+(qs eF (L.drop k)).2.2⟩
theorem qkS {eF:BL→Int} {L:BL} {k:Nat} {acc:List Tk} {last:Option Tk} {c:UInt8} {r:BL} (hd:L.drop k=c::r) (h:qc2 c=false) (h2:¬ c.toNat=10) (h3:¬ (c.toNat=47∧r.head?=some 47))
  (h4:(qs eF (L.drop k)).1=0∧0<(qs eF (L.drop k)).2.2):Jt eF L k acc last=Jt eF L (k+(qs eF (L.drop k)).2.2) (acc++[qrS eF L k]) (some (qrS eF L k)):=by
 rw[Jt];split
 · exact qhg
 · rename_i c' r' hd'
   rw[hd] at hd';cases hd'
   unfold qrS
   rw[hd] at h4 ⊢
   rw[if_neg (by rw[h];exact Bool.false_ne_true),if_neg h2,if_neg h3,dif_pos h4]
theorem qlN {eF:BL→Int} {L:BL} {k:Nat} {acc:List Tk} {last:Option Tk} {c:UInt8} {r:BL} (hd:L.drop k=c::r) (h:qc2 c=false) (h2:¬ c.toNat=10) (h3:¬ (c.toNat=47∧r.head?=some 47))
  (h4:¬ (qs eF (L.drop k)).1=0):Jt eF L k acc last = .error (k,(qs eF (L.drop k)).1):=by
 rw[Jt];split
 · exact qhg
 · rename_i c' r' hd'
   rw[hd] at hd';cases hd'
   rw[hd] at h4 ⊢
   rw[if_neg (by rw[h];exact Bool.false_ne_true),if_neg h2,if_neg h3,dif_neg (fun hh=>h4 hh.1)]
theorem qk2 {L:BL} (h:(qs eFv L).1=0):0<(qs eFv L).2.2∧(qs eFv L).2.2≤L.length∧∀ a b,Jn (qs eFv L).2.1 (L.take (qs eFv L).2.2)=JF ⟨(qs eFv L).2.1,L.take (qs eFv L).2.2,a,b⟩:=by
 by_cases h0:0<qp L
 · have e:qs eFv L=(if jp resW (L.take (qp L)) then (0,2,qp L) else if 40<qp L then (3,1,qp L) else if L.take (qp L)=[95] then (9,1,qp L) else (0,1,qp L)):=by
    unfold qs;rw[if_pos h0];rfl
   have hle:=J7 L
   rw[e] at h ⊢
   by_cases hr:jp resW (L.take (qp L))=true
   · rw[if_pos hr]
     refine⟨h0,hle,fun a b=>?_⟩
     simp[Jn,JF,jp]
   · rw[if_neg hr] at h ⊢
     by_cases h40:40<qp L
     · rw[if_pos h40] at h;exact absurd h zxs
     · rw[if_neg h40] at h ⊢
       by_cases hu:L.take (qp L)=[95]
       · rw[if_pos hu] at h;exact absurd h zxs
       · rw[if_neg hu]
         exact⟨h0,hle,fun a b=>by simp[Jn,JF]⟩
 · have e:=jK (L:=L) zxo
   have hle:=qcH L
   rw[e] at h ⊢
   by_cases h1:0<(Qm L).2
   · rw[if_pos h1]
     refine⟨h1,hle,fun a b=>?_⟩
     have hk:(Qm L).1=3∨(Qm L).1=4:=by unfold Qm;split<;>simp
     rcases hk with hk | hk<;>simp only[hk]<;>simp[Jn,JF]
   · rw[if_neg h1] at h ⊢
     cases hq:Qr L with
     | some vn =>
      obtain⟨v,n⟩:=vn
      have:=qaX hq
      exact⟨by simp only;omega,by simp only;omega,fun a b=>by simp[Jn,JF]⟩
     | none =>
      rw[hq] at h
      simp only at h ⊢
      by_cases h5:L.head?=some 59
      · rw[if_pos h5]
        cases L with
        | nil=>cases h5
        | cons c r =>
         simp at h5
         subst h5
         exact⟨by decide,by simp,fun a b=>by simp[Jn,JF]⟩
      · rw[if_neg h5] at h ⊢
        have hm:=qcM L
        by_cases h6:0<jX L
        · rw[if_pos h6]
          exact⟨h6,hm,fun a b=>by simp[Jn,JF]⟩
        · rw[if_neg h6] at h;exact absurd h zxs
theorem LSt.push2 {w0 w w2:World} {Lb Rb g cap H:Nat} {acc:List Tk} {last:Option Tk} {y:Tk} {v:Value} (h:LSt w0 Lb Rb acc last w) (hv:w.heap[Lb]?=some (.cells #[v] 125 (0,0)))
  (ho2:Own tkC 4 128 w2 w0.heap.size (.slice (some ⟨g,0,none⟩) (acc.length+1) cap) (acc++[y])) (hblk:∀ b,b<w.heap.size→v.ownBlock≠some b→w2.heap[b]?=w.heap[b]?) (hbel:Below w0.heap.size w0 w2)
  (hat:v.ownBlock=some g∨g=H) (hH:w.heap.size≤H) (h3:v.ownBlock≠some Lb) (h4:v.ownBlock≠some Rb) :
  LSt w0 Lb Rb (acc++[y]) last (w2.setCell ⟨Lb,0,none⟩ (.slice (some ⟨g,0,none⟩) (acc.length+1) cap)):=by
 obtain⟨k,t,a,b,h5,h6⟩:=h.rcell
 have hLlt:=(Array.getElem?_eq_some_iff.1 hv).1
 have hRlt:=(Array.getElem?_eq_some_iff.1 h5).1
 have e1:=(hblk Lb hLlt h3).trans hv
 have e2:=(hblk Rb hRlt h4).trans h5
 have hgL:g≠Lb:=by
  rcases hat with e | e
  · exact fun e2=>h3 (e2 ▸ e)
  · omega
 have hgR:g≠Rb:=by
  rcases hat with e | e
  · exact fun e2=>h4 (e2 ▸ e)
  · omega
 exact⟨⟨_,qU e1,qaZ ho2 (fun q hq=>qu (fun e=>hgL (by simp[Value.ownBlock] at hq;omega))),fun e=>hgL (by simpa[Value.ownBlock] using e),fun e=>hgR (by simpa[Value.ownBlock] using e)⟩,
  ⟨k,t,a,b,(qu (fun e=>h.ne e.symm)).trans e2,h6⟩,h.ne,h.lb,h.rb,hbel.setCell (p:=⟨Lb,0,none⟩) h.lb _⟩
theorem qhP {w:World} {b i:Nat} {v:Value}:(w.setCell ⟨b,i,none⟩ v).heap.size=w.heap.size:=by
 rw[Go.Sort.setCell_eq];unfold Go.Sort.mapBlock;simp
theorem Jx {L:BL} {w W:World} {b:Nat} {tmps:Array Value} {v:Value} {p:Nat} {er:Int} (hL:W.heap[b]?=some (.cells #[v] 125 (0,0))) (hO:jj w L (.returned (.tuple #[v,.int .i64 (p:Int),.int .i64 er])) W)
  (h2:tmps.getD 2 undef = .pointer (some ⟨b,0,none⟩)) (h3:tmps.getD 3 undef = .int .i64 (p:Int)) (h4:tmps.getD 4 undef = .int .i64 er) (hB:Below w.heap.size w W) :
  bodyPost Tryz.prog Tryz.f135 (fun e w'=>jj w L e w'∧Below w.heap.size w w') .ret { tmps:=tmps,defers:=[] } W:=by
 refine bodyPost_ret (v:=.tuple #[v,.int .i64 (p:Int),.int .i64 er]) ?_ rfl ⟨hO,hB⟩
 rw[qcN rfl]
 simp only
 rw[h2,h3,h4,show(asAddr (.pointer (some ⟨b,0,none⟩))).run Tryz.prog _ = .ok ⟨b,0,none⟩ _ from rfl]
 simp only[Result.andThen]
 rw[qjU hL]
theorem qhb {w:World} {B:Nat} {v:Value} {l:List Tk} (h:Own tkC 4 128 w B v l):∃ ao n cap,v = .slice ao n cap:=by
 rcases h.2 with hn | ⟨g,cap,cur,rfl,_⟩
 · exact⟨_,_,_,hn.1⟩
 · exact⟨_,_,_,rfl⟩
theorem qpA {L:BL} {k n K m:Nat} {X:BL} (h:∀ a b,Jn (qs eFv (L.drop k)).2.1 ((L.drop k).take (qs eFv (L.drop k)).2.2)=JF ⟨(qs eFv (L.drop k)).2.1,(L.drop k).take (qs eFv (L.drop k)).2.2,a,b⟩)
  (hK:(qs eFv (L.drop k)).2.1=K) (hN:(qs eFv (L.drop k)).2.2=n) (hX:X=(L.drop k).take n):qff (some ⟨K,X,k,m⟩) K (qn X) m:=by
 subst hN hK hX
 first
  | exact⟨rfl,rfl,rfl,h k m⟩
  | exact⟨rfl,rfl,h k m⟩
  | exact⟨rfl,qj _,rfl,by rw[qj];exact h k m⟩
theorem qoZ (w:World) (w1:World) (hb:Below w.heap.size w w1) (hl:w1.heap[w.heap.size]?=some (.cells #[.slice none 0 0] 125 (0,0))):LSt w w.heap.size w1.heap.size [] none (w1.alloc (.cells #[.int .i64 0,.string ⟨#[]⟩,.int .i64 0,.int .i64 0] 128)):=by
 have hlt:=(Array.getElem?_eq_some_iff.1 hl).1
 exact⟨⟨_,js hl,Own.nil_,by simp[Value.ownBlock],by simp[Value.ownBlock]⟩,⟨0,⟨#[]⟩,0,0,jt w1 _ _ _ _,rfl,rfl⟩,by omega,Nat.le_refl _,hb.size,hb.alloc hb.size _⟩
theorem qmJ (s:ByteArray) (w:World) (hs:s.size≤65536) (hG:LexG w) (hbr:qcb s.data.toList 0=none) :
  Calls Tryz.prog 135 #[.string s] w fun e w'=>jj w s.data.toList e w'∧Below w.heap.size w w':=by
 have hsz:s.data.toList.length=s.size:=rfl
 have hb0:Below w.heap.size w (w.alloc (.cells #[.slice none 0 0] 125)):=(Below.refl _ _).alloc zxn _
 have hl0:(w.alloc (.cells #[.slice none 0 0] 125)).heap[w.heap.size]?=some (.cells #[.slice none 0 0] 125 (0,0)):=heap_alloc_new w _
 have hbk:=qjz s (w.alloc (.cells #[.slice none 0 0] 125)) zxo (hG.below ((Below.refl _ _).alloc zxn _)).u8
 rw[hbr] at hbk
 have HBK:=zxi (show Calls Tryz.prog 152 #[.string s] (w.alloc (.cells #[.slice none 0 0] 125)) fun e w'=>e = .returned (.int .i64 (-1))∧Below (w.alloc (.cells #[.slice none 0 0] 125)).heap.size (w.alloc (.cells #[.slice none 0 0] 125)) w' from hbk)
 have htv:ja s.data.toList=Jt eFv s.data.toList 0 [] none:=by
  exact qnm
 have hle:¬ (65536:Int)<(s.size:Int):=by omega
 have HTV:=zxi htv
 have HSZ:=zxi hsz
 have HB0:=zxi hb0
 have HL0:=zxi hl0
 have HG:=zxi hG
 have hmf:∀ (fn:Fn) (first cap:Array Value) (w:World),(Instr.makeFunc fn first cap).run Tryz.prog w = .ok (.func fn first cap) w:=fun _ _ _ _=>rfl
 clear hsz hb0 hl0 hG hbr hbk htv
 go_enter Tryz.func135,Tryz.ntmps135
 go_wp2_with (first | (go_at_call 152;refine HBK.out.mono ?_;rintro e w1 ⟨rfl,hb1⟩;have HI:=zxi (qoZ w w1 (HB0.out.trans (hb1.mono HB0.out.size)) (qe HL0.out hb1));clear hb1))
 have hne1:w.heap.size≠w1.heap.size:=HI.out.ne
 generalize hR:w1.heap.size=Rb at HI hne1 ⊢
 clear hR
 go_loopw [8] (fun av wr=>∃ (k:Nat) (acc:List Tk) (last:Option Tk),k≤s.size∧av = .int .i64 k∧acc.length≤k∧Jt eFv s.data.toList 0 [] none=Jt eFv s.data.toList k acc last∧LSt w w.heap.size Rb acc last wr) (fun av _=>s.size-(intOf av).toNat)
 case atStart=>exact⟨0,[],none,Nat.zero_le _,rfl,Nat.le_refl _,rfl,HI.out⟩
 case round =>
  obtain⟨k,acc,last,hk,rfl,hal,hv,hst⟩:=hrel
  have HST:=zxi hst
  have HV:=zxi hv
  clear hst hv HI
  by_cases hlt:k<s.size
  · have hlt2:(k:Int)<(s.size:Int):=by omega
    have hkle:(k:Int)≤(s.size:Int):=by omega
    have hxs:(s.extract k s.size).size=s.size-k:=Q7 s k
    have hxp:0<(s.extract k s.size).size:=by omega
    obtain⟨c,r,hd,hc⟩:=qau hxp
    rw[ju] at hd
    have hdl:r.length+1+k=s.size:=by
     have:=congrArg List.length hd
     rw[List.length_drop,HSZ.out] at this;simp at this;omega
    have hl30:(s.extract k s.size).size≤1000000:=by omega
    have HD:=zxi hd
    cases hb:qc2 c with
    | true =>
     have HIX:=zxi (fun w=>qmh blanksB c w (qh4 _ hb))
     unfold blanksB at HIX
     have HW:=zxi (HV.out.trans (qgR hd hb))
     clear hd hb hxs hl30
     go_wp2_with (first | (go_at_call 101;refine(HIX.out _).mono ?_;rintro e w2 ⟨⟨i,rfl,hi⟩,rfl⟩;have hi2:0≤i:=by omega))
     go_roundw
     case rel=>exact⟨k+1,acc,last,by omega,by go_num,by omega,HW.out,HST.out⟩
     case measure=>simp only[intOf];omega
    | false =>
     have HIX:=zxi (fun w=>qib blanksB c w (qh4 _ hb))
     unfold blanksB at HIX
     by_cases h10:c.toNat=10
     · have b10:((c.toNat:Int) == 10)=true:=beq_iff_eq.2 zxo
       have HW:=zxi (HV.out.trans (qjo hd hb h10))
       have HLN:=zxi (qrH w w.heap.size Rb acc last wr HST.out zxo)
       have hcl:(jC acc last).length≤k+1:=by
        cases last with
        | none=>show acc.length≤k+1;omega
        | some t =>
         have e:jC acc (some t)=if JF t then acc++[⟨7,[],t.ed,t.ed⟩] else acc:=rfl
         rw[e];split
         · rw[List.length_append];show acc.length+1≤k+1;omega
         · omega
       clear hd hb hxs hl30 h10
       go_wp2_with (first | (go_at_call 101;refine(HIX.out _).mono ?_;rintro e w2 ⟨⟨i,rfl,hi⟩,rfl⟩;have hi2:¬ 0≤i:=by omega) | (go_at_call 153;refine HLN.out.mono ?_;rintro e w3 ⟨rfl,h3⟩;have HS3:=zxi h3;clear h3))
       go_roundw
       case rel=>exact⟨k+1,_,none,by omega,by go_num,hcl,HW.out,HS3.out⟩
       case measure=>simp only[intOf];omega
     · have b10:((c.toNat:Int) == 10)=false:=beq_eq_false_iff_ne.2 zxo
       have hpc:=fun w=>qpE (s.extract k s.size) w
       rw[ju,hd] at hpc
       simp only[List.head?_cons,List.tail_cons,Option.some.injEq] at hpc
       by_cases hcm:c=47∧r.head?=some 47
       · rw[decide_eq_true hcm] at hpc
         have HP:=zxi hpc
         have hcm2:c.toNat=47∧r.head?=some 47:=⟨by rw[hcm.1];rfl,hcm.2⟩
         have HW:=zxi (HV.out.trans (qlc hd hb h10 hcm2))
         have hcu:=fun w' hG=>qxB (s.extract k s.size) w' hl30 hG
         rw[ju,hd,qij hcm2.1] at hcu
         have hcl:=qnU r
         obtain⟨n,hn⟩:∃ n,1+qaP r=n:=⟨_,rfl⟩
         rw[hn] at hcu
         have hke:k+1+qaP r=k+n:=by omega
         rw[hke] at HW
         have HC:=zxi (hcu wr (HG.out.below HST.out.below))
         have hkn:k+n≤s.size:=by omega
         have hn1:1≤n:=by omega
         clear hd hb hxs hl30 h10 hcm hcm2 hpc hcu hcl hn hke
         go_wp2_with (first | (go_at_call 101;refine(HIX.out _).mono ?_;rintro e w2 ⟨⟨i,rfl,hi⟩,rfl⟩;have hi2:¬ 0≤i:=by omega) | (go_at_call 155;refine(HP.out _).mono ?_;rintro e w3 ⟨rfl,rfl⟩) | (go_at_call 156;refine HC.out.mono ?_;rintro e w4 ⟨⟨x,y,b,rfl,hxn⟩,q,rfl⟩))
         go_roundw
         case rel=>exact⟨k+n,acc,last,by omega,by go_num,by omega,HW.out,HST.out.later (qQ (Below.refl _ _) q)⟩
         case measure=>simp only[intOf];omega
       · rw[decide_eq_false hcm] at hpc
         have HP:=zxi hpc
         have hcm2:¬ (c.toNat=47∧r.head?=some 47):=fun hh=>hcm ⟨UInt8.toNat_inj.1 hh.1,hh.2⟩
         have HT:=zxi (qvb (s.extract k s.size) wr hl30 (HG.out.below HST.out.below))
         rw[ju] at HT
         by_cases her:(qs eFv (s.data.toList.drop k)).1=0
         · obtain⟨n0,nl,hen⟩:=qk2 her
           rw[List.length_drop,HSZ.out] at nl
           have HW:=zxi (HV.out.trans (qkS hd hb h10 hcm2 ⟨her,n0⟩))
           obtain⟨v0,hv0,hov,hv1,hv2⟩:=HST.out.lcell
           have HV0:=zxi hv0
           have HER:=zxi her
           obtain⟨n,hn⟩:∃ n,(qs eFv (s.data.toList.drop k)).2.2=n:=⟨_,rfl⟩
           have hkn:k+n≤s.size:=by omega
           have hn1:1≤n:=by omega
           have HN:=zxi hn
           have HEN:=zxi hen
           obtain⟨m,hm⟩:∃ m,k+n=m:=⟨_,rfl⟩
           have hkm:(k:Int)+(n:Int)=(m:Int):=by omega
           obtain⟨i32',hi32,hz0,hz1,hz2⟩:=jg qmj
           have HV12:=zxi (And.intro hv1 hv2)
           have HOV:=zxi hov
           clear hd hb hxs hl30 h10 hcm hcm2 hpc her hn hen n0 nl hov
           go_wp2_with (first | (go_at_call 101;refine(HIX.out _).mono ?_;rintro e w2 ⟨⟨i,rfl,hi⟩,rfl⟩;have hi2:¬ 0≤i:=by omega) | (go_at_call 155;refine(HP.out _).mono ?_;rintro e w3 ⟨rfl,rfl⟩) | (go_at_call 157;refine HT.out.mono ?_;rintro e w4 ⟨⟨k',t',a',b',rfl,ht0⟩,hb4⟩;obtain⟨rfl,ht1,rfl,rfl⟩:=ht0 HER.out;rw[HER.out,HN.out];rw[HN.out] at ht1;obtain⟨X,rfl⟩:∃ X,t'=qn X:=⟨_,(jE t').symm⟩;rw[qj] at ht1;have HB4:=zxi hb4;have HT1:=zxi ht1;obtain⟨l0,lz,ll⟩:=jf (qe HV0.out hb4);unfold qcm;clear ht0 hb4 ht1))
           obtain⟨K,hK⟩:∃ K,(qs eFv (s.data.toList.drop k)).2.1=K:=⟨_,rfl⟩
           simp only[hK]
           have HS5:=zxi ((HST.out.later HB4.out).later ((Below.refl w4.heap.size w4).alloc zxn (.cells #[.int .i64 (K:Int),.string (qn X),.int .i64 (k:Int),.int .i64 (m:Int)] 128)))
           have HT5:=zxi (jt w4 (.int .i64 (K:Int)) (.string (qn X)) (.int .i64 (k:Int)) (.int .i64 (m:Int)))
           have HL5:=zxi (js (o':=.cells #[.int .i64 (K:Int),.string (qn X),.int .i64 (k:Int),.int .i64 (m:Int)] 128) (qe HV0.out HB4.out))
           have HO5:=zxi ((HOV.out.below HB4.out).alloc (.cells #[.int .i64 (K:Int),.string (qn X),.int .i64 (k:Int),.int .i64 (m:Int)] 128))
           have htb:v0.ownBlock≠some w4.heap.size:=fun e=>by
            have:=(Own.lt (HOV.out.below HB4.out) _ e).2
            omega
           have HTB:=zxi htb
           have hb5:=HS5.out.below
           have hT1:w4.heap.size≠w.heap.size:=by omega
           have hT2:w4.heap.size≠Rb:=by
            obtain⟨_,_,_,_,hRx,_⟩:=HST.out.rcell
            have h1:=(Array.getElem?_eq_some_iff.1 hRx).1
            have h2:=HB4.out.size
            omega
           generalize w4.alloc (.cells #[.int .i64 (K:Int),.string (qn X),.int .i64 (k:Int),.int .i64 (m:Int)] 128)=W5 at HS5 HT5 HL5 HO5 hb5 ⊢
           generalize w4.heap.size=Tb at HT5 HTB hT1 hT2 ⊢
           have hT3:w.heap.size≠Tb:=fun e=>hT1 e.symm
           have hT4:Rb≠Tb:=fun e=>hT2 e.symm
           have hne2:Rb≠w.heap.size:=fun e=>hne1 e.symm
           obtain⟨k9,t9,a9,b9,hR9,_⟩:=HS5.out.rcell
           have HR9:=zxi hR9
           obtain⟨x0,x1,x2,x3,xz,xl⟩:=qq HT5.out
           obtain⟨l0,lz,ll⟩:=jf HL5.out
           obtain⟨r0,r1,r2,r3,rz,rl⟩:=qq hR9
           have hs5:=hb5.size
           clear hR9 htb hb5
           refine wp_region_held_drew (S:=(fun w'=>w'.cell? ⟨Tb,0,none⟩=some (.int .i64 (K:Int))∧w'.cell? ⟨Tb,1,none⟩=some (.string (qn X))∧w'.cell? ⟨Tb,2,none⟩=some (.int .i64 (k:Int))∧w'.cell? ⟨Tb,3,none⟩=some (.int .i64 (m:Int)))) (by kernel_rfl) (by(try dsimp only);go_keep) (fun hHeld=>?_)
           refine wpAnyH_take (i:=1) (v:=?_) rfl (by kernel_rfl) (by kernel_rfl) (by kernel_rfl) (fun _ _ _ h=>h) (Or.inl ⟨by rfl,?_⟩) zxa ?_
           rotate_left
           · exact qjR
           (try simp only[Act.put,List.setIfInBounds_toArray,List.set_cons_zero,List.set_cons_succ])
           refine wpAnyH_take (i:=4) (v:=?_) rfl (by kernel_rfl) (by kernel_rfl) (by kernel_rfl) (fun _ _ _ h=>h) (Or.inl ⟨by rfl,?_⟩) zxa ?_
           rotate_left
           · exact qjR
           (try simp only[Act.put,List.setIfInBounds_toArray,List.set_cons_zero,List.set_cons_succ])
           refine wpAnyH_take (i:=5) (v:=?_) rfl (by kernel_rfl) (by kernel_rfl) (by kernel_rfl) (fun _ _ _ h=>h) (Or.inl ⟨by rfl,?_⟩) zxa ?_
           rotate_left
           · exact qjR
           (try simp only[Act.put,List.setIfInBounds_toArray,List.set_cons_zero,List.set_cons_succ])
           refine wpAnyH_take (i:=6) (v:=?_) rfl (by kernel_rfl) (by kernel_rfl) (by kernel_rfl) (fun _ _ _ h=>h) (Or.inl ⟨by rfl,?_⟩) zxa ?_
           rotate_left
           · exact qjR
           (try simp only[Act.put,List.setIfInBounds_toArray,List.set_cons_zero,List.set_cons_succ])
           refine wpAnyH_ready (rs:=[0,2]) (by kernel_rfl) zxs ?_
           refine AllReadyH.cons rfl (fun KK hKK=>?_) (AllReadyH.cons rfl (fun KK hKK=>?_) AllReadyH.nil)
           · go_simp
             refine hKK.out _ _ (by(try dsimp only);go_keep) (fun hHeld2=>?_)
             clear hKK KK hHeld
             rename _=>hHeld
             refine wpAnyH_ready (rs:=[2]) (by kernel_rfl) zxs ?_
             exact qwt
           · go_simp
             refine hKK.out _ _ (by(try dsimp only);go_keep) (fun hHeld2=>?_)
             clear hKK KK hHeld
             rename _=>hHeld
             refine wpAnyH_ready (rs:=[0]) (by kernel_rfl) zxs ?_
             exact qwt
         · have HW:=zxi (HTV.out.trans (HV.out.trans (qlN hd hb h10 hcm2 her)))
           have hx:∃ er,(qs eFv (s.data.toList.drop k)).1=er:=⟨_,rfl⟩
           obtain⟨er,hex⟩:=hx
           have HEX:=zxi hex
           have hern:(er != 0)=true:=by rw[hex] at her;simpa using her
           obtain⟨v0,hv0,hov,hv1,hv2⟩:=HST.out.lcell
           have HV0:=zxi hv0
           clear hd hb hxs hl30 h10 hcm hcm2 hpc her hex
           go_wp2_with (first | (go_at_call 101;refine(HIX.out _).mono ?_;rintro e w2 ⟨⟨i,rfl,hi⟩,rfl⟩;have hi2:¬ 0≤i:=by omega) | (go_at_call 155;refine(HP.out _).mono ?_;rintro e w3 ⟨rfl,rfl⟩) | (go_at_call 157;refine HT.out.mono ?_;rintro e w4 ⟨⟨k',t',a',b',rfl,ht0⟩,hb4⟩;rw[HEX.out];have HB4:=zxi hb4;obtain⟨l0,lz,ll⟩:=jf (qe HV0.out hb4);unfold qcm;clear ht0 hb4))
           refine Jx (v:=.slice none 0 0) (p:=k) (er:=er) (js (qU (qe HV0.out HB4.out))) ?_ rfl rfl rfl (((HST.out.below.trans (HB4.out.mono HST.out.below.size)).setCell (p:=⟨w.heap.size,0,none⟩) zxn _).alloc (by rw[qhP];exact Nat.le_trans HST.out.below.size HB4.out.size) _)
           unfold jj;rw[HW.out,HEX.out]
  · have hke:k=s.size:=by omega
    have HLN:=zxi (qrH w w.heap.size Rb acc last wr HST.out zxo)
    have HTK:=zxi (show ja s.data.toList = .ok (jC acc last) from HTV.out.trans (HV.out.trans (qkG (by rw[HSZ.out];omega))))
    have hge:¬ (k:Int)<(s.size:Int):=by omega
    have hlen:(jC acc last).length≤65537:=by
     cases last with
     | none=>show acc.length≤65537;omega
     | some t =>
      have e:jC acc (some t)=if JF t then acc++[⟨7,[],t.ed,t.ed⟩] else acc:=rfl
      rw[e];split
      · rw[List.length_append];show acc.length+1≤65537;omega
      · omega
    go_wp2_with (first | (go_at_call 153;refine HLN.out.mono ?_;rintro e w3 ⟨rfl,h3⟩;have HS3:=zxi h3;obtain⟨vL,hvL,hoL,hnL,_⟩:=h3.lcell;obtain⟨sa,sn,sc,rfl⟩:=qhb hoL;obtain⟨l0,lz,ll⟩:=jf hvL;have HVL:=zxi hvL;have HOL:=zxi hoL;have HNL:=zxi hnL;clear h3 hvL hoL hnL))
    refine Jx (v:=.slice sa sn sc) (p:=0) (er:=0) (qU HVL.out) ?_ rfl rfl rfl (HS3.out.below.setCell (p:=⟨w.heap.size,0,none⟩) zxn _)
    unfold jj;rw[HTK.out];exact⟨_,rfl,qaZ HOL.out (fun q hq=>qu (fun e=>HNL.out (by first | rw[hq,e] | rw[hq,← e]))),hlen⟩
theorem qd5 (s:ByteArray) (w:World) (hs:65536<s.size) :
  Calls Tryz.prog 135 #[.string s] w fun e w'=>jj w s.data.toList e w'∧Below w.heap.size w w':=by
 have htv:ja s.data.toList = .error (65536,3):=by
  unfold ja;rw[if_pos (show 65536<s.data.toList.length from hs)]
 have hgt:(65536:Int)<(s.size:Int):=by omega
 have HTV:=zxi htv
 have hb0:Below w.heap.size w (w.alloc (.cells #[.slice none 0 0] 125)):=(Below.refl _ _).alloc zxn _
 have hl0:(w.alloc (.cells #[.slice none 0 0] 125)).heap[w.heap.size]?=some (.cells #[.slice none 0 0] 125 (0,0)):=heap_alloc_new w _
 have HB0:=zxi hb0
 have HL0:=zxi hl0
 clear htv hb0 hl0
 go_enter Tryz.func135,Tryz.ntmps135
 go_wp2_with fail
 refine Jx (v:=.slice none 0 0) (p:=65536) (er:=3) HL0.out ?_ rfl rfl rfl HB0.out
 unfold jj;rw[HTV.out]
theorem qbM (s:ByteArray) (w:World) (hs:s.size≤65536) (hG:LexG w) {k:Nat} (hbr:qcb s.data.toList 0=some k) :
  Calls Tryz.prog 135 #[.string s] w fun e w'=>jj w s.data.toList e w'∧Below w.heap.size w w':=by
 have hsz:s.data.toList.length=s.size:=rfl
 have hb0:Below w.heap.size w (w.alloc (.cells #[.slice none 0 0] 125)):=(Below.refl _ _).alloc zxn _
 have hl0:(w.alloc (.cells #[.slice none 0 0] 125)).heap[w.heap.size]?=some (.cells #[.slice none 0 0] 125 (0,0)):=heap_alloc_new w _
 have hbk:=qjz s (w.alloc (.cells #[.slice none 0 0] 125)) zxo (hG.below ((Below.refl _ _).alloc zxn _)).u8
 rw[hbr] at hbk
 have HBK:=zxi (show Calls Tryz.prog 152 #[.string s] (w.alloc (.cells #[.slice none 0 0] 125)) fun e w'=>e = .returned (.int .i64 (k:Int))∧Below (w.alloc (.cells #[.slice none 0 0] 125)).heap.size (w.alloc (.cells #[.slice none 0 0] 125)) w' from hbk)
 have htv:ja s.data.toList = .error (k,8):=by
  exact qnm
 have hle:¬ (65536:Int)<(s.size:Int):=by omega
 have HTV:=zxi htv
 have HB0:=zxi hb0
 have HL0:=zxi hl0
 have hk0:0≤(k:Int):=by omega
 clear hsz hb0 hl0 hG hbr hbk htv
 go_enter Tryz.func135,Tryz.ntmps135
 go_wp2_with (first | (go_at_call 152;refine HBK.out.mono ?_;rintro e w1 ⟨rfl,hb1⟩;obtain⟨l0,lz,ll⟩:=jf (qe HL0.out hb1);have HB1:=zxi hb1;clear hb1))
 refine Jx (v:=.slice none 0 0) (p:=k) (er:=8) (qU (qe HL0.out HB1.out)) ?_ rfl rfl rfl ((HB0.out.trans (HB1.out.mono HB0.out.size)).setCell (p:=⟨w.heap.size,0,none⟩) zxn _)
 unfold jj;rw[HTV.out]
theorem qbX (s:ByteArray) (w:World) (hG:LexG w) :
  Calls Tryz.prog 135 #[.string s] w fun e w'=>jj w s.data.toList e w'∧Below w.heap.size w w':=by
 by_cases hs:65536<s.size
 · exact qd5 s w hs
 · cases hb:qcb s.data.toList 0 with
   | some k=>exact qbM s w zxo hG hb
   | none=>exact qmJ s w zxo hG hb
end Go.Proofs.YtacdfjlncfidgaaGreatDoor
