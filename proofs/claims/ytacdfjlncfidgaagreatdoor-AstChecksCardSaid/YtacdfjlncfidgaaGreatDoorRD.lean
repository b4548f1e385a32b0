/- A part of what the claim leans on. -/
import Derived.Test.YtacdfjlncfidgaaGreatDoorQS
import Derived.Test.YtacdfjlncfidgaaGreatDoorRC
import Derived.Test.YtacdfjlncfidgaaGreatDoorRS
import Derived.Sort.Row
import Derived.Laws.Rows
import Derived.Laws.ResultCell
namespace Go.Proofs.YtacdfjlncfidgaaGreatDoor
open Go.RowKit
set_option linter.unusedVariables false
set_option linter.unusedSimpArgs false
set_option maxRecDepth 100000
set_option maxHeartbeats 3200000
structure LexG (w:World):Prop where
 g3:Glob3 w
 sp:SpTab w
 u8:U8T w
theorem LexG.below {w w':World} (h:LexG w) (hb:Below w.heap.size w w'):LexG w':=⟨h.g3.below hb,h.sp.below hb,Utf8Tabs_below h.u8 hb⟩
noncomputable def eFv (L:BL):Int:=if h:(qn L).size≤1000000 then Classical.choose (Classical.choose_spec (qaB (qn L) h)) else 0
theorem qmv (s:ByteArray) (hs:s.size≤1000000):∃ f:Nat,
  (∀ w,Glob3 w→Calls Tryz.prog 173 #[.string s] w fun e w'=>e = .returned (.tuple #[.float .f64 f,.int .i64 (eFv s.data.toList)])∧Below w.heap.size w w') ∧
  ∀ w',Calls Tryz.prog 130 #[.string s] w' fun e w2=>e = .returned (.tuple #[.int .u64 f,.int .i64 (eFv s.data.toList)])∧Below w'.heap.size w' w2:=by
 have e:eFv s.data.toList=Classical.choose (Classical.choose_spec (qaB s hs)):=by
  unfold eFv
  simp only[jE]
  exact dif_pos hs
 rw[e]
 exact⟨_,Classical.choose_spec (Classical.choose_spec (qaB s hs))⟩
theorem qon (s:ByteArray) (hs:s.size≤1000000) (w:World) (hG:Glob2 w):∃ v:Int,
  (Calls Tryz.prog 172 #[.string s] w fun e w'=>e = .returned (.tuple #[.int .i64 v,.int .i64 (qlS s.data.toList)])∧Below w.heap.size w w') ∧
  ∀ w',Calls Tryz.prog 129 #[.string s] w' fun e w2=>e = .returned (.tuple #[.int .i64 v,.int .i64 (qlS s.data.toList)])∧w'=w2:=by
 unfold qlS
 cases hn:QG s.data.toList
 · refine⟨0,?_,?_⟩
   · exact(qmX s zxo hn w).mono (fun e w' ⟨h1,h2⟩=>⟨h1,by rw[← h2];exact Below.refl _ _⟩)
   · exact fun w'=>qbA s hs hn w'
 · by_cases hv:qM 0 s.data.toList≤9223372036854775807
   · simp only[if_true,if_pos hv]
     refine⟨(qM 0 s.data.toList:Nat),qsG s hs hn hv w,fun w'=>?_⟩
     have h:=JS s hs hn w'
     rw[if_pos hv] at h
     exact h
   · simp only[if_true,if_neg hv]
     refine⟨0,qlw s hs hn zxo w hG,fun w'=>?_⟩
     have h:=JS s hs hn w'
     rw[if_neg hv] at h
     exact h
def qcm (k:Nat) (t:ByteArray) (a b:Nat):Value:=.agg #[.int .i64 (k:Int),.string t,.int .i64 (a:Int),.int .i64 (b:Int)]
theorem qgW {p:UInt8→Bool} (l:BL):(l.take (l.takeWhile p).length).takeWhile p=l.takeWhile p:=by
 induction l with
 | nil=>rfl
 | cons c l ih =>
  cases hc:p c with
  | true=>rw[List.takeWhile_cons,hc];simp only[if_true,List.length_cons,List.take_succ_cons,List.takeWhile_cons,hc,ih]
  | false=>rw[List.takeWhile_cons,hc];rfl
theorem J7 (L:BL):qp L≤L.length:=by
 cases L with
 | nil=>exact Nat.le_refl _
 | cons c r =>
  have:qp (c::r)=if jb c then ((c::r).takeWhile Jr).length else 0:=rfl
  rw[this];split
  · exact(List.takeWhile_sublist Jr).length_le
  · omega
theorem qgi {L:BL} (h:0<qp L):qp (L.take (qp L))=qp L∧(L.take (qp L)).length=qp L∧L.take (qp L)≠[]:=by
 cases L with
 | nil=>exact absurd h zxd
 | cons c r =>
  have e:qp (c::r)=if jb c then ((c::r).takeWhile Jr).length else 0:=rfl
  cases hc:jb c with
  | false=>rw[e,hc,if_neg Bool.false_ne_true] at h;omega
  | true =>
   rw[hc,if_pos rfl] at e
   have hl:=J7 (c::r)
   have hlen:((c::r).take (qp (c::r))).length=qp (c::r):=by rw[List.length_take];omega
   refine⟨?_,hlen,fun hn=>by rw[hn] at hlen;simp at hlen;omega⟩
   obtain⟨m,hm⟩:∃ m,qp (c::r)=m+1:=⟨qp (c::r)-1,by omega⟩
   have h2:(c::r).take (qp (c::r))=c::r.take m:=by rw[hm];rfl
   have e2:qp (c::r.take m)=((c::r.take m).takeWhile Jr).length:=if_pos hc
   rw[h2,e2,← h2]
   rw[e,qgW]
theorem qnO {L:BL} (h:0<qp L) (hr:jp resW (L.take (qp L))=false) (h40:qp L≤40):qc (L.take (qp L)) = !decide (L.take (qp L)=[95]):=by
 obtain⟨h1,h2,h3⟩:=qgi h
 have h4:(L.take (qp L)).isEmpty=false:=by
  cases hl:L.take (qp L) with
  | nil=>exact absurd hl h3
  | cons=>rfl
 unfold qc
 rw[h4,h1,h2,hr]
 simp[h40]
theorem jo (s:ByteArray) (n:Nat):(s.extract 0 n).data.toList=s.data.toList.take n:=by
 rw[ByteArray.data_extract,Array.toList_extract]
 simp[List.extract]
theorem qdn {s:ByteArray} {n:Nat} (h:n≤s.size):(s.extract 0 n).size=n:=by
 show(s.extract 0 n).data.toList.length=n
 rw[jo,List.length_take];show min n s.size=n;omega
def Jh (L:BL) (e:Ending):Prop:=∃ (k:Nat) (t:ByteArray) (a b:Nat),e = .returned (.tuple #[qcm k t a b,.int .i64 (qs eFv L).1]) ∧
 ((qs eFv L).1=0→k=(qs eFv L).2.1∧t.data.toList=L.take (qs eFv L).2.2∧a=0∧b=(qs eFv L).2.2)
theorem qq {w:World} {b:Nat} {T:TypeId} {v0 v1 v2 v3:Value} (h:w.heap[b]?=some (.cells #[v0,v1,v2,v3] T (0,0))) :
  w.cell? ⟨b,0,none⟩=some v0∧w.cell? ⟨b,1,none⟩=some v1∧w.cell? ⟨b,2,none⟩=some v2∧w.cell? ⟨b,3,none⟩=some v3∧(∀ j,w.frozen? ⟨b,j,none⟩=false)∧b<w.heap.size :=
 ⟨by rw[cell_of_row _ _ _ _ _ _ h];rfl,by rw[cell_of_row _ _ _ _ _ _ h];rfl,by rw[cell_of_row _ _ _ _ _ _ h];rfl,by rw[cell_of_row _ _ _ _ _ _ h];rfl,fun j=>by simp[World.frozen?,h],(Array.getElem?_eq_some_iff.1 h).1⟩
theorem qe {w w':World} {b:Nat} {o:Obj} (h:w.heap[b]?=some o) (hb:Below w.heap.size w w'):w'.heap[b]?=some o:=(hb.block b (Array.getElem?_eq_some_iff.1 h).1).trans h
theorem js {w:World} {b:Nat} {o o':Obj} (h:w.heap[b]?=some o):(w.alloc o').heap[b]?=some o:=(Go.heap_alloc_old w o' (Array.getElem?_eq_some_iff.1 h).1).trans h
theorem jt (w:World) (v0 v1 v2 v3:Value):(w.alloc (.cells #[v0,v1,v2,v3] 128)).heap[w.heap.size]?=some (.cells #[v0,v1,v2,v3] 128 (0,0)):=heap_alloc_new w _
open Go.Sort in
theorem qU {w:World} {b i:Nat} {v:Value} {cur:Array Value} {e:TypeId} {fr:Nat×Nat} (h:w.heap[b]?=some (.cells cur e fr)):(w.setCell ⟨b,i,none⟩ v).heap[b]?=some (.cells (cur.setIfInBounds i v) e fr):=by
 rw[setCell_eq]
 unfold mapBlock
 simp only[Array.getElem?_modify,if_true,h,Option.map_some,onCells]
open Go.Sort in
theorem qu {w:World} {b i k:Nat} {v:Value} (h:k≠b):(w.setCell ⟨b,i,none⟩ v).heap[k]?=w.heap[k]?:=by
 rw[setCell_eq]
 unfold mapBlock
 simp only[Array.getElem?_modify]
 rw[if_neg (fun e=>h e.symm)]
theorem qcz {w:World} {b:Nat} {T:TypeId} {v0 v1 v2 v3 x0 x1 x2 x3:Value} (h:w.heap[b]?=some (.cells #[v0,v1,v2,v3] T (0,0))) :
  ((((w.setCell ⟨b,0,none⟩ x0).setCell ⟨b,1,none⟩ x1).setCell ⟨b,2,none⟩ x2).setCell ⟨b,3,none⟩ x3).heap[b]?=some (.cells #[x0,x1,x2,x3] T (0,0)) :=
 qU (qU (qU (qU h)))
theorem qaq {w0 w:World} {B b:Nat} {x0 x1 x2 x3:Value} (h:Below B w0 w) (hb:B≤b):Below B w0 ((((w.setCell ⟨b,0,none⟩ x0).setCell ⟨b,1,none⟩ x1).setCell ⟨b,2,none⟩ x2).setCell ⟨b,3,none⟩ x3) :=
 (((h.setCell (p:=⟨b,0,none⟩) hb _).setCell (p:=⟨b,1,none⟩) hb _).setCell (p:=⟨b,2,none⟩) hb _).setCell (p:=⟨b,3,none⟩) hb _
theorem u32:(match Tryz.prog.underlying 128 with | some (.struct _)=>true | _=>false)=true:=by kernel_rfl
theorem i32:(Tryz.prog.info? 128).map (·.size)=some 4:=by kernel_rfl
theorem qli {w:World} {b:Nat} {x0 x1 x2 x3:Value} (h:w.heap[b]?=some (.cells #[x0,x1,x2,x3] 128 (0,0))):(loadVar 128 ⟨b,0,none⟩).run Tryz.prog w = .ok (.agg #[x0,x1,x2,x3]) w:=by
 have hu:=u32
 cases hd:Tryz.prog.underlying 128 with
 | none=>rw[hd] at hu;cases hu
 | some d =>
  rw[hd] at hu
  refine run_loadVar_row w b 128 128 _ (0,0) d h hd ?_ i32
  cases d<;>simp_all
theorem qaU {L:BL} {w0 W:World} {A:Nat} {tmps:Array Value} {u0 u1 u2 u3:Value} {k:Nat} {t:ByteArray} {a b:Nat} {er:Int}
  (hA:W.heap[A]?=some (.cells #[u0,u1,u2,u3] 128 (0,0))) (hle:w0.heap.size≤A) (hB:Below w0.heap.size w0 W) (hO:Jh L (.returned (.tuple #[qcm k t a b,.int .i64 er])))
  (h2:tmps.getD 2 undef = .pointer (some ⟨A,0,none⟩)) (h3:tmps.getD 3 undef = .int .i64 er) :
  bodyPost Tryz.prog Tryz.f157 (fun e w'=>Jh L e∧Below w0.heap.size w0 w') .ret { tmps:=tmps,defers:=[] } ((((W.setCell ⟨A,0,none⟩ (.int .i64 (k:Int))).setCell ⟨A,1,none⟩ (.string t)).setCell ⟨A,2,none⟩ (.int .i64 (a:Int))).setCell ⟨A,3,none⟩ (.int .i64 (b:Int))):=by
 refine bodyPost_ret (v:=.tuple #[qcm k t a b,.int .i64 er]) ?_ rfl ⟨hO,qaq hB hle⟩
 rw[results_cell_tmp rfl]
 simp only
 rw[h2,h3,show(asAddr (.pointer (some ⟨A,0,none⟩))).run Tryz.prog _ = .ok ⟨A,0,none⟩ _ from rfl]
 simp only[Result.andThen]
 rw[qli (qcz hA)]
 rfl
theorem jT {L:BL} {er:Int} {K n:Nat} {k:Nat} {t:ByteArray} {a b:Nat} (h:qs eFv L=(er,K,n)) (h2:er=0→k=K∧t.data.toList=L.take n∧a=0∧b=n):Jh L (.returned (.tuple #[qcm k t a b,.int .i64 er])) :=
 ⟨k,t,a,b,by rw[h],by rw[h];exact h2⟩
theorem qgc (s:ByteArray) (w:World) (hs:s.size≤1000000) (h0:0<qp s.data.toList) :
  Calls Tryz.prog 157 #[.string s] w fun e w'=>Jh s.data.toList e∧Below w.heap.size w w':=by
 have hsz:s.data.toList.length=s.size:=rfl
 have HB0:=zxi ((Below.refl w.heap.size w).alloc zxn (.cells #[.int .i64 0,.string ⟨#[]⟩,.int .i64 0,.int .i64 0] 128))
 have HA0:=zxi (jt w (.int .i64 0) (.string ⟨#[]⟩) (.int .i64 0) (.int .i64 0))
 have HS:=zxi (fun w=>qdR s w zxo)
 have hle:=J7 s.data.toList
 rw[hsz] at hle
 have hnm:=qnO h0
 obtain⟨n,hn⟩:∃ n,qp s.data.toList=n:=⟨_,rfl⟩
 rw[hn] at HS hle hnm h0
 have h0':(0:Int)<(n:Int):=by omega
 have hle':(n:Int)≤(s.size:Int):=by omega
 have hR:=fun w=>qd4 (s.extract 0 n) w
 rw[jo] at hR
 have hN:=fun w=>qs4 (s.extract 0 n) w (by rw[qdn hle];omega)
 rw[jo] at hN
 have htk:qs eFv s.data.toList=(if jp resW (s.data.toList.take n) then (0,2,n) else if 40<n then (3,1,n) else if s.data.toList.take n=[95] then (9,1,n) else (0,1,n)):=by
  unfold qs;rw[hn,if_pos h0];rfl
 cases hr:jp resW (s.data.toList.take n) with
 | true =>
  rw[hr] at hR htk
  have HR:=zxi hR
  have HO:=zxi (jT (k:=2) (t:=s.extract 0 n) (a:=0) (b:=n) (show qs eFv s.data.toList=(0,2,n) from htk) (fun _=>⟨rfl,jo s n,rfl,rfl⟩))
  clear hR hN htk hr hn hsz hnm
  go_enter Tryz.func157,Tryz.ntmps157
  go_wp2_with (first | (go_at_call 88;refine(HS.out _).mono ?_;rintro e w1 ⟨rfl,hb1⟩;have HA1:=zxi (qe HA0.out hb1);have HB1:=zxi (HB0.out.trans (hb1.mono HB0.out.size));clear hb1) | (go_at_call 89;refine(HR.out _).mono ?_;rintro e w2 ⟨rfl,hb2⟩;obtain⟨a0,a1,a2,a3,az,al⟩:=qq (qe (js HA1.out) hb2);obtain⟨b0,b1,b2,b3,bz,bl⟩:=qq (qe (jt w1 _ _ _ _) hb2);have hne:w.heap.size≠w1.heap.size:=(by have:=HB1.out.size;have:=(Array.getElem?_eq_some_iff.1 HA1.out).1;omega);have HA2:=zxi (qe (js (o':=.cells #[.int .i64 1,.string (s.extract 0 n),.int .i64 0,.int .i64 (n:Int)] 128) HA1.out) hb2);have HB2:=zxi ((HB1.out.alloc HB1.out.size (.cells #[.int .i64 1,.string (s.extract 0 n),.int .i64 0,.int .i64 (n:Int)] 128)).trans (hb2.mono (Nat.le_trans HB1.out.size (by rw[World.size_alloc];omega))));clear hb2))
  exact qaU (by rw[qu hne];exact HA2.out) zxn (HB2.out.setCell (p:=⟨w1.heap.size,0,none⟩) HB1.out.size _) HO.out rfl rfl
 | false =>
  rw[hr] at hR htk
  by_cases h40:40<n
  · have h40':(40:Int)<(n:Int):=by omega
    have HR:=zxi hR
    have HO:=zxi (jT (k:=1) (t:=s.extract 0 n) (a:=0) (b:=n) (show qs eFv s.data.toList=(3,1,n) by rw[htk];simp[h40]) (fun h=>absurd h zxd))
    clear hR hN htk hr hn hsz hnm
    go_enter Tryz.func157,Tryz.ntmps157
    go_wp2_with (first | (go_at_call 88;refine(HS.out _).mono ?_;rintro e w1 ⟨rfl,hb1⟩;have HA1:=zxi (qe HA0.out hb1);have HB1:=zxi (HB0.out.trans (hb1.mono HB0.out.size));clear hb1) | (go_at_call 89;refine(HR.out _).mono ?_;rintro e w2 ⟨rfl,hb2⟩;obtain⟨a0,a1,a2,a3,az,al⟩:=qq (qe (js HA1.out) hb2);obtain⟨b0,b1,b2,b3,bz,bl⟩:=qq (qe (jt w1 _ _ _ _) hb2);have hne:w.heap.size≠w1.heap.size:=(by have:=HB1.out.size;have:=(Array.getElem?_eq_some_iff.1 HA1.out).1;omega);have HA2:=zxi (qe (js (o':=.cells #[.int .i64 1,.string (s.extract 0 n),.int .i64 0,.int .i64 (n:Int)] 128) HA1.out) hb2);have HB2:=zxi ((HB1.out.alloc HB1.out.size (.cells #[.int .i64 1,.string (s.extract 0 n),.int .i64 0,.int .i64 (n:Int)] 128)).trans (hb2.mono (Nat.le_trans HB1.out.size (by rw[World.size_alloc];omega))));clear hb2))
    exact qaU HA2.out zxn HB2.out HO.out rfl rfl
  · have h40':¬ (40:Int)<(n:Int):=by omega
    rw[hnm hr zxo] at hN
    by_cases hu:s.data.toList.take n=[95]
    · rw[decide_eq_true hu] at hN
      have HR:=zxi hR
      have HN:=zxi hN
      have HO:=zxi (jT (k:=1) (t:=s.extract 0 n) (a:=0) (b:=n) (show qs eFv s.data.toList=(9,1,n) by rw[htk];simp[h40,hu]) (fun h=>absurd h zxd))
      exact qwn
    · rw[decide_eq_false hu] at hN
      have HR:=zxi hR
      have HN:=zxi hN
      have HO:=zxi (jT (k:=1) (t:=s.extract 0 n) (a:=0) (b:=n) (show qs eFv s.data.toList=(0,1,n) by rw[htk];simp[h40,hu]) (fun _=>⟨rfl,jo s n,rfl,rfl⟩))
      exact qwn
theorem qol (r:BL):qcv r≤r.length:=by
 unfold qcv
 cases r with
 | nil=>simp
 | cons c p =>
  simp only
  split
  · have h1:=qZ p (sgN p)
    have h2:sgN p≤p.length:=by
     exact qrg
    split
    · omega
    · simp only[List.length_cons];omega
  · omega
theorem qcH (L:BL):(Qm L).2≤L.length:=by
 unfold Qm
 have h1:=qam L
 have h2:=qZ L (digN L+1)
 have h3:=qol (L.drop (digN L+1+digN (L.drop (digN L+1))))
 rw[List.length_drop] at h3
 split
 · exact h1
 · rename_i h
   have h4:L[digN L]?=some 46:=by
    rcases Classical.em (L[digN L]?=some 46) with h5 | h5
    · exact h5
    · exact absurd (.inr (.inl h5)) h
   have:=(List.getElem?_eq_some_iff.1 h4).1
   simp only;omega
theorem qdl (L:BL):∀ (f i:Nat) (b v:BL) (n:Nat),L.length-i≤f→quotAt L i b=some (v,n)→i<n∧n≤L.length:=by
 intro f
 induction f with
 | zero=>intro i b v n hf h;rw[Qw zxo] at h;cases h
 | succ f ih =>
  intro i b v n hf h
  by_cases hi:i<L.length
  · rw[quotAt,dif_pos hi] at h
    split at h
    · cases h;omega
    · split at h
      · cases h
      · split at h
        · cases he:Ja (L.drop (i+1)) with
          | none=>rw[he] at h;cases h
          | some xn =>
           obtain⟨x,m⟩:=xn
           rw[he] at h
           have:=ih _ _ _ _ zxo h
           omega
        · have:=ih _ _ _ _ zxo h
          omega
  · rw[Qw zxo] at h;cases h
theorem qaX {L v:BL} {n:Nat} (h:Qr L=some (v,n)):1<n∧n≤L.length:=by
 cases L with
 | nil=>cases h
 | cons c r =>
  have e:Qr (c::r)=if c.toNat=34 then quotAt (c::r) 1 [] else none:=rfl
  rw[e] at h
  split at h
  · exact qdl _ _ _ _ _ _ zxn h
  · cases h
theorem qiV {m L:BL} (h:m.isPrefixOf L=true):m.length≤L.length:=(List.isPrefixOf_iff_prefix.1 h).length_le
theorem qcM (L:BL):jX L≤L.length:=by
 unfold jX
 split
 · rename_i h
   obtain⟨m,hm,hp⟩:=List.any_eq_true.1 h
   have:=qiV hp
   rw[← J4,List.mem_filter] at hm
   have:=hm.2
   simp at this;omega
 · split
   · rename_i h
     obtain⟨m,hm,hp⟩:=List.any_eq_true.1 h
     have:=qiV hp
     rw[← qbz,List.mem_filter] at hm
     have:=hm.2
     simp at this;omega
   · omega
theorem jK {L:BL} (h:qp L=0):qs eFv L=(if 0<(Qm L).2 then ((if (Qm L).1=3 then qlS (L.take (Qm L).2) else eFv (L.take (Qm L).2)),(Qm L).1,(Qm L).2)
  else match Qr L with
  | some (v,n)=>((if 4096<v.length then 3 else 0),5,n)
  | none=>if L.head?=some 59 then (0,7,1) else if 0<jX L then (0,6,jX L) else (4,0,0)):=by
 unfold qs;rw[h,if_neg zxo];rfl
theorem qhL (s:ByteArray) (w:World) (hs:s.size≤1000000) (hG:LexG w) (h0:qp s.data.toList=0) (h1:0<(Qm s.data.toList).2) :
  Calls Tryz.prog 157 #[.string s] w fun e w'=>Jh s.data.toList e∧Below w.heap.size w w':=by
 have hsz:s.data.toList.length=s.size:=rfl
 have HB0:=zxi ((Below.refl w.heap.size w).alloc zxn (.cells #[.int .i64 0,.string ⟨#[]⟩,.int .i64 0,.int .i64 0] 128))
 have HA0:=zxi (jt w (.int .i64 0) (.string ⟨#[]⟩) (.int .i64 0) (.int .i64 0))
 have HG:=zxi hG
 have hsp:=fun w=>qdR s w zxo
 rw[h0] at hsp
 have HS:=zxi (show ∀ w,Calls Tryz.prog 88 #[.string s] w fun e w'=>e = .returned (.int .i64 0)∧Below w.heap.size w w' from hsp)
 have hnu:=fun w=>qe2 s w hs
 have htk:=jK h0
 clear hsp hG
 have hle:=qcH s.data.toList
 rw[hsz] at hle
 rw[if_pos h1] at htk
 obtain⟨k,hk⟩:∃ k,(Qm s.data.toList).1=k:=⟨_,rfl⟩
 obtain⟨n,hn⟩:∃ n,(Qm s.data.toList).2=n:=⟨_,rfl⟩
 rw[hk,hn] at htk
 simp only[hk,hn] at hnu
 rw[hn] at hle h1
 have HU:=zxi hnu
 have h1':(0:Int)<(n:Int):=by omega
 have hle':(n:Int)≤(s.size:Int):=by omega
 have hes:(s.extract 0 n).size≤1000000:=by rw[qdn hle];omega
 by_cases hk3:k=3
 · subst hk3
   rw[if_pos rfl,← jo] at htk
   have HU:=zxi (show ∀ w,Calls Tryz.prog 171 #[.string s] w fun e w'=>e = .returned (.tuple #[.int .i64 3,.int .i64 (n:Nat)])∧Below w.heap.size w w' from hnu)
   obtain⟨er,he⟩:∃ er,qlS (s.extract 0 n).data.toList=er:=⟨_,rfl⟩
   have hI:∀ w,LexG w→∃ v:Int,Calls Tryz.prog 172 #[.string (s.extract 0 n)] w fun e w'=>e = .returned (.tuple #[.int .i64 v,.int .i64 er])∧Below w.heap.size w w':=fun w h=>by
    obtain⟨v,h1,_⟩:=qon (s.extract 0 n) hes w h.g3.g2
    rw[he] at h1
    exact⟨v,h1⟩
   have HI:=zxi hI
   rw[he] at htk
   have HO:=zxi (jT (k:=3) (t:=s.extract 0 n) (a:=0) (b:=n) htk (fun _=>⟨rfl,jo s n,rfl,rfl⟩))
   clear htk hk hn hsz hnu hI he hes
   go_enter Tryz.func157,Tryz.ntmps157
   go_wp2_with (first | (go_at_call 88;refine(HS.out _).mono ?_;rintro e w1 ⟨rfl,hb1⟩;have HA1:=zxi (qe HA0.out hb1);have HB1:=zxi (HB0.out.trans (hb1.mono HB0.out.size));clear hb1) | (go_at_call 171;refine(HU.out _).mono ?_;rintro e w2 ⟨rfl,hb2⟩;obtain⟨a0,a1,a2,a3,az,al⟩:=qq (qe HA1.out hb2);have HA2:=zxi (qe HA1.out hb2);have HB2:=zxi (HB1.out.trans (hb2.mono HB1.out.size));clear hb2) | (go_at_call 172;obtain⟨v,hv⟩:=HI.out _ (HG.out.below HB2.out);refine hv.mono ?_;rintro e w3 ⟨rfl,hb3⟩;obtain⟨a0,a1,a2,a3,az,al⟩:=qq (qe HA2.out hb3);have HA3:=zxi (qe HA2.out hb3);have HB3:=zxi (HB2.out.trans (hb3.mono HB2.out.size));clear hb3 hv))
   exact qiM
 · rw[if_neg hk3,← jo] at htk
   have hk3':((k:Int) == 3)=false:=beq_eq_false_iff_ne.2 zxo
   obtain⟨er,he⟩:∃ er,eFv (s.extract 0 n).data.toList=er:=⟨_,rfl⟩
   obtain⟨f,hf,_⟩:=qmv (s.extract 0 n) hes
   rw[he] at hf htk
   have HF:=zxi hf
   have HO:=zxi (jT (k:=k) (t:=s.extract 0 n) (a:=0) (b:=n) htk (fun _=>⟨rfl,jo s n,rfl,rfl⟩))
   clear htk hk hn hsz hnu hf he hes hk3
   go_enter Tryz.func157,Tryz.ntmps157
   go_wp2_with (first | (go_at_call 88;refine(HS.out _).mono ?_;rintro e w1 ⟨rfl,hb1⟩;have HA1:=zxi (qe HA0.out hb1);have HB1:=zxi (HB0.out.trans (hb1.mono HB0.out.size));clear hb1) | (go_at_call 171;refine(HU.out _).mono ?_;rintro e w2 ⟨rfl,hb2⟩;obtain⟨a0,a1,a2,a3,az,al⟩:=qq (qe HA1.out hb2);have HA2:=zxi (qe HA1.out hb2);have HB2:=zxi (HB1.out.trans (hb2.mono HB1.out.size));clear hb2) | (go_at_call 173;refine(HF.out _ (HG.out.below HB2.out).g3).mono ?_;rintro e w3 ⟨rfl,hb3⟩;obtain⟨a0,a1,a2,a3,az,al⟩:=qq (qe HA2.out hb3);have HA3:=zxi (qe HA2.out hb3);have HB3:=zxi (HB2.out.trans (hb3.mono HB2.out.size));clear hb3))
   exact qiM
theorem qiG (s:ByteArray) (w:World) (hs:s.size≤1000000) (hG:LexG w) (h0:qp s.data.toList=0) (h1:(Qm s.data.toList).2=0) (v:BL) (n:Nat) (hq:Qr s.data.toList=some (v,n)) :
  Calls Tryz.prog 157 #[.string s] w fun e w'=>Jh s.data.toList e∧Below w.heap.size w w':=by
 have hsz:s.data.toList.length=s.size:=rfl
 have HB0:=zxi ((Below.refl w.heap.size w).alloc zxn (.cells #[.int .i64 0,.string ⟨#[]⟩,.int .i64 0,.int .i64 0] 128))
 have HA0:=zxi (jt w (.int .i64 0) (.string ⟨#[]⟩) (.int .i64 0) (.int .i64 0))
 have HG:=zxi hG
 have hsp:=fun w=>qdR s w zxo
 rw[h0] at hsp
 have HS:=zxi (show ∀ w,Calls Tryz.prog 88 #[.string s] w fun e w'=>e = .returned (.int .i64 0)∧Below w.heap.size w w' from hsp)
 have hnu:=fun w=>qe2 s w hs
 have htk:=jK h0
 clear hsp hG
 rw[if_neg zxo,hq] at htk
 obtain⟨hn1,hle⟩:=qaX hq
 rw[hsz] at hle
 obtain⟨k,hk⟩:∃ k,(Qm s.data.toList).1=k:=⟨_,rfl⟩
 simp only[hk,h1] at hnu
 have HU:=zxi (show ∀ w,Calls Tryz.prog 171 #[.string s] w fun e w'=>e = .returned (.tuple #[.int .i64 (k:Nat),.int .i64 0])∧Below w.heap.size w w' from hnu)
 have hqq:=fun w=>qip s w hs
 rw[hq] at hqq
 have HQ:=zxi (show ∀ w,Calls Tryz.prog 174 #[.string s] w fun e w'=>e = .returned (.tuple #[.string (qn v),.int .i64 (n:Nat)])∧Below w.heap.size w w' from hqq)
 have h1':(0:Int)<(n:Int):=by omega
 have hle':(n:Int)≤(s.size:Int):=by omega
 have hvs:(qn v).size=v.length:=by show(qn v).data.toList.length=_;rw[qj]
 generalize qn v=V at HQ hvs
 by_cases h4:4096<v.length
 · have h4':(4096:Int)<(V.size:Int):=by omega
   have HO:=zxi (jT (k:=5) (t:=s.extract 0 n) (a:=0) (b:=n) (show qs eFv s.data.toList=(3,5,n) by rw[htk];simp[h4]) (fun h=>absurd h zxd))
   exact qup
 · have h4':¬ (4096:Int)<(V.size:Int):=by omega
   have HO:=zxi (jT (k:=5) (t:=s.extract 0 n) (a:=0) (b:=n) (show qs eFv s.data.toList=(0,5,n) by rw[htk];simp[h4]) (fun _=>⟨rfl,jo s n,rfl,rfl⟩))
   exact qup
theorem qgm (s:ByteArray) (w:World) (hs:s.size≤1000000) (hG:LexG w) (h0:qp s.data.toList=0) (h1:(Qm s.data.toList).2=0) (hq:Qr s.data.toList=none) :
  Calls Tryz.prog 157 #[.string s] w fun e w'=>Jh s.data.toList e∧Below w.heap.size w w':=by
 have hsz:s.data.toList.length=s.size:=rfl
 have HB0:=zxi ((Below.refl w.heap.size w).alloc zxn (.cells #[.int .i64 0,.string ⟨#[]⟩,.int .i64 0,.int .i64 0] 128))
 have HA0:=zxi (jt w (.int .i64 0) (.string ⟨#[]⟩) (.int .i64 0) (.int .i64 0))
 have HG:=zxi hG
 have hsp:=fun w=>qdR s w zxo
 rw[h0] at hsp
 have HS:=zxi (show ∀ w,Calls Tryz.prog 88 #[.string s] w fun e w'=>e = .returned (.int .i64 0)∧Below w.heap.size w w' from hsp)
 have hnu:=fun w=>qe2 s w hs
 have htk:=jK h0
 clear hsp hG
 rw[if_neg zxo,hq] at htk
 simp only at htk
 obtain⟨k,hk⟩:∃ k,(Qm s.data.toList).1=k:=⟨_,rfl⟩
 simp only[hk,h1] at hnu
 have HU:=zxi (show ∀ w,Calls Tryz.prog 171 #[.string s] w fun e w'=>e = .returned (.tuple #[.int .i64 (k:Nat),.int .i64 0])∧Below w.heap.size w w' from hnu)
 have hqq:=fun w=>qip s w hs
 rw[hq] at hqq
 have HQ:=zxi (show ∀ w,Calls Tryz.prog 174 #[.string s] w fun e w'=>e = .returned (.tuple #[.string ⟨#[]⟩,.int .i64 0])∧Below w.heap.size w w' from hqq)
 have hp:=fun w=>qwT s 59 w
 have hat:atB (· == 59) s.data.toList 0=decide (s.data.toList.head?=some 59):=by
  unfold atB
  cases s.data.toList with
  | nil=>rfl
  | cons c r=>simp;exact Bool.eq_iff_iff.2 zxs
 rw[hat] at hp
 by_cases h5:s.data.toList.head?=some 59
 · rw[decide_eq_true h5] at hp
   rw[if_pos h5] at htk
   have HP:=zxi hp
   have htl:s.data.toList.take 1=[59]:=by
    cases hL:s.data.toList with
    | nil=>rw[hL] at h5;cases h5
    | cons c r=>rw[hL] at h5;simp at h5;simp[h5]
   have HO:=zxi (jT (k:=7) (t:=⟨#[59]⟩) (a:=0) (b:=1) htk (fun _=>⟨rfl,by rw[htl],rfl,rfl⟩))
   clear htk hk hsz hnu hqq hq h1 hp hat h5 htl
   go_enter Tryz.func157,Tryz.ntmps157
   go_wp2_with (first | (go_at_call 88;refine(HS.out _).mono ?_;rintro e w1 ⟨rfl,hb1⟩;have HA1:=zxi (qe HA0.out hb1);have HB1:=zxi (HB0.out.trans (hb1.mono HB0.out.size));clear hb1) | (go_at_call 171;refine(HU.out _).mono ?_;rintro e w2 ⟨rfl,hb2⟩;obtain⟨a0,a1,a2,a3,az,al⟩:=qq (qe HA1.out hb2);have HA2:=zxi (qe HA1.out hb2);have HB2:=zxi (HB1.out.trans (hb2.mono HB1.out.size));clear hb2) | (go_at_call 174;refine(HQ.out _).mono ?_;rintro e w3 ⟨rfl,hb3⟩;obtain⟨a0,a1,a2,a3,az,al⟩:=qq (qe HA2.out hb3);have HA3:=zxi (qe HA2.out hb3);have HB3:=zxi (HB2.out.trans (hb3.mono HB2.out.size));clear hb3) | (go_at_call 155;refine(HP.out _).mono ?_;rintro e w4 ⟨rfl,rfl⟩))
   exact qiM
 · rw[decide_eq_false h5] at hp
   rw[if_neg h5] at htk
   have HP:=zxi hp
   have hle:=qcM s.data.toList
   rw[hsz] at hle
   have hm:=fun w h=>qv3 s w h
   obtain⟨n,hn⟩:∃ n,jX s.data.toList=n:=⟨_,rfl⟩
   rw[hn] at htk hle
   simp only[hn] at hm
   have hle':(n:Int)≤(s.size:Int):=by omega
   by_cases hn0:0<n
   · have hn0':(0:Int)<(n:Int):=by omega
     rw[if_pos hn0] at htk
     have HM:=zxi hm
     have HO:=zxi (jT (k:=6) (t:=s.extract 0 n) (a:=0) (b:=n) htk (fun _=>⟨rfl,jo s n,rfl,rfl⟩))
     exact qwo
   · obtain rfl:n=0:=by omega
     rw[if_neg hn0] at htk
     have HM:=zxi (show ∀ w,SpTab w→Calls Tryz.prog 175 #[.string s] w fun e w'=>e = .returned (.int .i64 0)∧Below w.heap.size w w' from hm)
     have HO:=zxi (jT (k:=0) (t:=⟨#[]⟩) (a:=0) (b:=0) htk (fun h=>absurd h zxd))
     exact qwo
theorem qvb (s:ByteArray) (w:World) (hs:s.size≤1000000) (hG:LexG w) :
  Calls Tryz.prog 157 #[.string s] w fun e w'=>Jh s.data.toList e∧Below w.heap.size w w':=by
 by_cases h0:0<qp s.data.toList
 · exact qgc s w hs h0
 · by_cases h1:0<(Qm s.data.toList).2
   · exact qhL s w hs hG zxo h1
   · cases hq:Qr s.data.toList with
     | none=>exact qgm s w hs hG zxo zxo hq
     | some vn=>obtain⟨v,n⟩:=vn;exact qiG s w hs hG zxo zxo v n hq
end Go.Proofs.YtacdfjlncfidgaaGreatDoor
