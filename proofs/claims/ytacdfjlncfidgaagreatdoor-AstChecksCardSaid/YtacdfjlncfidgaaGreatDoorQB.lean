/- A part of what the claim leans on. -/
import Derived.Test.YtacdfjlncfidgaaGreatDoorQS
import Derived.Test.YtacdfjlncfidgaaGreatDoorRows
import Derived.WalkKit
import Derived.Outline
import Derived.Lib.Hide
import Derived.WalkLawsBesides
import Derived.WalkSpells
import Derived.OwnWalk
import Derived.Deep.QuietTactic
import Derived.BigQuiet
import Derived.Test.YtacdfjlncfidgaaGreatDoorQShelf
import Derived.Laws.BytesString
import Derived.Laws.Bits64b
import Derived.Lib.SmallJoins
import Derived.Deep.AppendLies
import Derived.Deep.Draws
import Derived.Laws.OwnMore
import Derived.Maps.AppendAt
import Derived.Lib.LaidU8
import Derived.LaidLaws
import Derived.Lay
namespace Go.Proofs.YtacdfjlncfidgaaGreatDoor
open Go.RowKit
set_option linter.unusedVariables false
set_option linter.unusedSimpArgs false
set_option maxHeartbeats 1600000
set_option maxRecDepth 1000000
theorem jB {k:IntKind} {a b:Int} (h:a=b):Ending.returned (.int k a) = .returned (.int k b):=by rw[h]
theorem qi {a b:Bool} (h:a=b):Ending.returned (.bool a) = .returned (.bool b):=by rw[h]
def qf (c:UInt8):Bool:=decide (48≤c.toNat)&&decide (c.toNat≤57)
def digN (l:List UInt8):Nat:=(l.takeWhile qf).length
theorem qam (l:List UInt8):digN l≤l.length:=by
 unfold digN
 exact(List.takeWhile_sublist qf).length_le
theorem qaj {l:List UInt8} {k:Nat} (hk:k≤l.length) (h:∀ c∈l.take k,qf c=true) (hs:k=l.length∨∃ c,l[k]?=some c∧qf c=false):digN l=k:=by
 unfold digN
 induction l generalizing k with
 | nil=>simp at hk ⊢;omega
 | cons x l ih =>
  cases k with
  | zero =>
   rcases hs with hs | ⟨c,hc,hd⟩
   · simp at hs
   · simp at hc;subst hc;simp[hd]
  | succ k =>
   have hx:qf x=true:=h x zxs
   simp only[List.takeWhile_cons,hx,if_true,List.length_cons]
   rw[ih (k:=k) (by simp at hk;omega) (fun c hc=>h c (by simp[hc])) (by
    rcases hs with hs | ⟨c,hc,hd⟩
    · left;simp at hs;omega
    · right;exact⟨c,by simpa using hc,hd⟩)]
theorem qE (s:ByteArray) (w:World) (hs:s.size≤9223372036854775807) :
  Calls Tryz.prog 191 #[.string s] w fun e w'=>e = .returned (.int .i64 (digN s.data.toList))∧w=w':=by
 go_enter Tryz.func191,Tryz.ntmps191
 go_wp2_with fail
 go_step3
 go_wp2_with fail
 go_step3
 go_wp2_with fail
 go_loop [3,4] (fun n _=>∃ k:Nat,k≤s.size∧n = .int .i64 k∧∀ c∈s.data.toList.take k,qf c=true) (fun n _=>s.size-(intOf n).toNat)
 case atStart=>exact⟨0,Nat.zero_le _,rfl,by simp⟩
 case round =>
  obtain⟨k,hk,rfl,hd⟩:=hrel
  have HD:=zxi hd
  clear hd
  have hsz:s.data.toList.length=s.size:=rfl
  by_cases hlt:k<s.size
  · have hget:s.data.toList[k]?=some s[k]:=by
     rw[List.getElem?_eq_getElem (by rw[hsz];exact hlt)];rfl
    have HG:=zxi hget
    have HZ:=zxi hsz
    clear hget hsz
    obtain⟨c,hc⟩:∃ c,s[k]=c:=⟨_,rfl⟩
    have HGc:=zxi (HG.out.trans (congrArg some hc))
    by_cases hdig:qf c=true
    · have h1:¬ (c.toNat:Int)<48:=by simp[qf] at hdig;omega
      have h2:¬ (57:Int)<(c.toNat:Int):=by simp[qf] at hdig;omega
      have HDG:=zxi hdig
      clear hdig
      go_wp2_with fail
      go_round
      case rel =>
       refine⟨k+1,by omega,by go_num,fun x hx=>?_⟩
       rw[List.take_add_one,HGc.out] at hx
       simp at hx
       rcases hx with hx | hx
       · exact HD.out x hx
       · rw[hx];exact HDG.out
      case measure=>simp[intOf];omega
    · have hE:=zxi (qaj (k:=k) (l:=s.data.toList) (by rw[HZ.out];omega) HD.out (.inr ⟨c,HGc.out,by simpa using hdig⟩))
      have HE:=zxi hE
      clear hE
      by_cases h1:(c.toNat:Int)<48
      · clear hdig
        exact qnb
      · have h2:(57:Int)<(c.toNat:Int):=by simp[qf] at hdig;omega
        clear hdig
        exact qnb
  · obtain rfl:k=s.size:=by omega
    have hE:=qaj (k:=s.size) (l:=s.data.toList) (by rw[hsz];omega) HD.out (.inl hsz.symm)
    have HE:=zxi hE
    clear hE hsz
    exact qnb
structure Knows (w:World):Prop where
 maxlen:∃ m,w.cell? ⟨2,0,none⟩=some (.int .i64 m)
 width:w.cell? ⟨9,0,none⟩=some (.int .u64 52)
 ways:w.cell? ⟨8,0,none⟩=some (.bool true)
 pows:∃ pb po c,w.cell? ⟨12,0,none⟩=some (.slice (some ⟨pb,po,none⟩) 23 c)∧w.cell? ⟨pb,po+1,none⟩=some (.float .f64 4621819117588971520)
theorem j6 (w:World):Calls Tryz.prog 221 #[.bool false] w fun e w'=>e = .returned (.int .u64 0)∧w=w':=by
 go_enter Tryz.func221,Tryz.ntmps221
 exact qdi
def QG (l:List UInt8):Bool := !l.isEmpty&&decide (digN l=l.length)&&(decide (l.length=1)||decide (l[0]?≠some 48))
theorem qA (s:ByteArray) (w:World) (hs:s.size≤9223372036854775807) :
  Calls Tryz.prog 182 #[.string s] w fun e w'=>e = .returned (.bool (QG s.data.toList))∧w=w':=by
 have hsz:s.data.toList.length=s.size:=rfl
 by_cases h0:s.size=0
 · have he:s.data.toList.isEmpty=true:=by
    rw[List.isEmpty_iff];exact List.eq_nil_of_length_eq_zero (by rw[hsz];exact h0)
   have he2:s.data.toList=[]:=by simpa using he
   have HV:=zxi (show QG s.data.toList=false by simp[QG,he])
   have t1:s.toList=[]:=by rw[ByteArray.toList_eq];exact he2
   have t2:(!s.toList.isEmpty)=false:=by rw[t1];rfl
   clear he he2
   go_enter Tryz.func182,Tryz.ntmps182
   go_wp2_with fail
   go_ret
   exact⟨qi HV.out.symm,rfl⟩
 · have he:s.data.toList.isEmpty=false:=by
    exact qp2
   have hpos:0<s.size:=by omega
   have hget:s.data.toList[0]?=some s[0]:=by rw[List.getElem?_eq_getElem (by rw[hsz];exact hpos)];rfl
   have HV:=zxi (show QG s.data.toList=(decide (digN s.data.toList=s.size)&&(decide (s.size=1)||decide (s[0]≠48))) by simp[QG,he,hsz,hget])
   have HD:=zxi (qE s w hs)
   have hdl:=qam s.data.toList
   rw[hsz] at hdl
   have t1:¬ s.toList=[]:=by rw[ByteArray.toList_eq];intro hc;rw[hc] at hsz;simp at hsz;omega
   have t2:(!s.toList.isEmpty)=true:=by simpa using t1
   obtain⟨c,hc⟩:∃ c,s[0]=c:=⟨_,rfl⟩
   rw[hc] at HV
   generalize QG s.data.toList=V at *
   generalize digN s.data.toList=d at *
   clear hget hsz h0 he
   by_cases h1:d=s.size
   · have h1':(d:Int)=(s.size:Int):=by omega
     by_cases h2:s.size=1
     · have HW:=zxi (show V=true by rw[HV.out];simp[h1,h2])
       have h2':(s.size:Int)=1:=by omega
       subst h1
       have H2:=zxi h2
       clear h2 h1'
       exact qkL
     · have h2':¬ (s.size:Int)=1:=by omega
       by_cases h3:c=48
       · have HW:=zxi (show V=false by rw[HV.out];simp[h1,h2,h3])
         subst h1
         have hd2:((s.size:Int) == 1)=false:=by simpa using h2'
         have hn:((c.toNat:Int) != 48)=false:=by rw[h3];rfl
         have hn2:(c.toNat:Int)=48:=by rw[h3];rfl
         clear h2 h1' h3
         exact qkL
       · have HW:=zxi (show V=true by rw[HV.out];simp[h1,h3])
         subst h1
         have hd2:((s.size:Int) == 1)=false:=by simpa using h2'
         have hc48:c.toNat≠48:=fun e=>h3 (UInt8.toNat_inj.1 (by rw[e];rfl))
         have hn:((c.toNat:Int) != 48)=true:=by simp;omega
         have hn2:¬ (c.toNat:Int)=48:=by omega
         clear h2 h1' h3
         exact qkL
   · have HW:=zxi (show V=false by rw[HV.out];simp[h1])
     have h1':¬ (d:Int)=(s.size:Int):=by omega
     have hdd:decide (d=s.size)=false:=by simpa using h1
     clear h1
     exact qkL
def digs:List UInt8:=[48,49,50,51,52,53,54,55,56,57,97,98,99,100,101,102]
def Bits (g:Nat) (i:Nat) (S:List UInt8) (X:World):Prop :=
 ∃ arr,X.heap[g]?=some (.cells arr 276 (0,0))∧arr.size=65∧∀ j c,S[j]?=some c→arr[i+j]?=some (.int .u8 c.toNat)
theorem Bits.set {g i:Nat} {S:List UInt8} {X:World} (h:Bits g i S X) (h0:0<i) (hi:i≤65) (c:UInt8):Bits g (i-1) (c::S) (X.setCell ⟨g,i-1,none⟩ (.int .u8 c.toNat)):=by
 obtain⟨arr,ha,hs,hc⟩:=h
 refine⟨arr.setIfInBounds (i-1) (.int .u8 c.toNat),?_,by simpa using hs,fun j d hj=>?_⟩
 · simp only[World.setCell,Array.getElem?_modify]
   simp[ha]
 · cases j with
   | zero =>
    simp at hj
    subst hj
    rw[Nat.add_zero,Array.getElem?_setIfInBounds_self_of_lt zxo]
   | succ j =>
    simp at hj
    rw[Array.getElem?_setIfInBounds_ne zxo,show i-1+(j+1)=i+j by omega]
    exact hc j d hj
theorem Bits.cell {g i:Nat} {S:List UInt8} {X:World} (h:Bits g i S X) (j:Nat) (c:UInt8) (hj:S[j]?=some c):X.cell? ⟨g,i+j,none⟩=some (.int .u8 c.toNat):=by
 obtain⟨arr,ha,hs,hc⟩:=h
 simp only[World.cell?,ha]
 simpa using hc j c hj
def qpJ (b:Nat):Bool:=FloatKind.f64.format.order b b != some .eq
theorem Below.at_ {w w':World} (hb:Below w.heap.size w w') {b o:Nat} {v:Value} (h:w.cell? ⟨b,o,none⟩=some v):w'.cell? ⟨b,o,none⟩=some v :=
 (hb.cell (p:=⟨b,o,none⟩) (World.block_lt_of_cell? _ _ h)).trans h
structure Glob (w:World):Prop where
 knows:Knows w
 trail:w.cell? ⟨17,15,none⟩=some (.int .u8 4)
 tens:Lib.TabIs Tryz.prog w "internal/strconv.uint64pow10" .u64 Lib.pow10Tab
theorem Knows.below {w w':World} (h:Knows w) (hb:Below w.heap.size w w'):Knows w':=by
 obtain⟨⟨m,hm⟩,h1,h2,⟨pb,po,c,h3,h4⟩⟩:=h
 exact⟨⟨m,Below.at_ hb hm⟩,Below.at_ hb h1,Below.at_ hb h2,⟨pb,po,c,Below.at_ hb h3,Below.at_ hb h4⟩⟩
theorem Glob.below {w w':World} (h:Glob w) (hb:Below w.heap.size w w'):Glob w':=by
 refine⟨h.knows.below hb,Below.at_ hb h.trail,?_⟩
 have ht:=h.tens
 unfold Lib.TabIs World.var? at ht ⊢
 cases hg:Tryz.prog.globalNamed "internal/strconv.uint64pow10" with
 | none=>rw[hg] at ht;simp at ht
 | some g =>
  rw[hg] at ht
  simp only[Option.bind_some] at ht ⊢
  have hlt:g<w.heap.size:=by
   rcases Nat.lt_or_ge g w.heap.size with h | h
   · exact h
   · rw[Array.getElem?_eq_none h] at ht;simp at ht
  rw[hb.block g hlt]
  exact ht
section
variable {α:Type} {cs:α→List Value} {sz:Nat} {w w':World} {B B':Nat} {A:Option Addr} {l:List α}
def RowOf (cs:α→List Value) (sz:Nat) (w:World) (B:Nat) (A:Option Addr) (l:List α):Prop :=
 0<l.length→∃ b off,A=some ⟨b,off,none⟩∧b<B∧∀ i x,l[i]?=some x→∀ j v,(cs x)[j]?=some v→w.cell? ⟨b,off+i*sz+j,none⟩=some v
theorem RowOf.nil_:RowOf cs sz w B A []:=fun h=>absurd h zxs
theorem RowOf.keep (h:RowOf cs sz w B A l) (hk:∀ p:Addr,p.block<B→w'.cell? p=w.cell? p):RowOf cs sz w' B A l:=by
 intro hn
 obtain⟨b,off,e,hb,hc⟩:=h hn
 exact⟨b,off,e,hb,fun i x hx j v hv=>(hk _ hb).trans (hc i x hx j v hv)⟩
theorem RowOf.below (h:RowOf cs sz w B A l) (hb:Below B' w w') (hB:B≤B'):RowOf cs sz w' B A l:=h.keep fun _ hp=>hb.cell zxo
theorem RowOf.more (h:RowOf cs sz w B A l) (hB:B≤B'):RowOf cs sz w B' A l:=by
 intro hn
 obtain⟨b,off,e,hb,hc⟩:=h hn
 exact⟨b,off,e,by omega,hc⟩
theorem RowOf.drewN (h:RowOf cs sz w B A l) (k:Nat):RowOf cs sz (w.drewN k) B A l:=h
theorem RowOf.drew (h:RowOf cs sz w B A l):RowOf cs sz w.drew B A l:=h
theorem RowOf.alloc (h:RowOf cs sz w B A l) (hB:B≤w.heap.size) (o:Obj):RowOf cs sz (w.alloc o) B A l :=
 h.keep fun p hp=>World.cell?_alloc_lt w o p zxo
theorem RowOf.after (h:RowOf cs sz w B A l) (hB:B≤w.heap.size) (hb:Below w.heap.size w w'):RowOf cs sz w' w'.heap.size A l :=
 (h.below hb hB).more (Nat.le_trans hB hb.size)
theorem RowOf.take (h:RowOf cs sz w B A l) (n:Nat):RowOf cs sz w B A (l.take n):=by
 intro hn
 obtain⟨b,off,e,hb,hc⟩:=h (by rw[List.length_take] at hn;omega)
 refine⟨b,off,e,hb,fun i x hx=>hc i x ?_⟩
 rw[List.getElem?_take] at hx
 split at hx
 · exact hx
 · cases hx
theorem qcV (hs:∀ x,(cs x).length=sz):∀ (l:List α) (i:Nat) (x:α),l[i]?=some x→∀ j v,(cs x)[j]?=some v→(l.flatMap cs)[i*sz+j]?=some v:=by
 intro l
 induction l with
 | nil=>intro i x hx;simp at hx
 | cons y l ih =>
  intro i x hx j v hv
  rw[List.flatMap_cons]
  cases i with
  | zero =>
   simp at hx
   subst hx
   have hj:j<(cs y).length:=by
    rcases Nat.lt_or_ge j (cs y).length with h | h
    · exact h
    · rw[List.getElem?_eq_none h] at hv;cases hv
   rw[Nat.zero_mul,Nat.zero_add,List.getElem?_append_left hj]
   exact hv
  | succ i =>
   simp at hx
   rw[Nat.succ_mul,List.getElem?_append_right (by rw[hs];omega),hs]
   rw[show i*sz+sz+j-sz=i*sz+j by omega]
   exact ih i x hx j v hv
theorem qaW (hs:∀ x,(cs x).length=sz) (l:List α):(l.flatMap cs).length=l.length*sz:=by
 induction l with
 | nil=>simp
 | cons y l ih=>rw[List.flatMap_cons,List.length_append,hs,ih,List.length_cons,Nat.succ_mul];omega
theorem RowOf.made (hs:∀ x,(cs x).length=sz) (W:World) (arr:Array Value) (e:TypeId) (fz:Nat×Nat) (h:arr.toList=l.flatMap cs) (g:Nat) (hg:g=W.heap.size) :
  RowOf cs sz (W.alloc (.cells arr e fz)) (W.alloc (.cells arr e fz)).heap.size (some ⟨g,0,none⟩) l:=by
 subst hg
 intro _
 refine⟨W.heap.size,0,rfl,by simp,fun i x hx j u hu=>?_⟩
 have hf:=qcV hs l i x hx j u hu
 rw[cell_of_row _ _ _ _ _ _ (heap_alloc_new W _),Nat.zero_add,← Array.getElem?_toList,h]
 exact hf
def Own (cs:α→List Value) (sz:Nat) (e:TypeId) (w:World) (B:Nat) (v:Value) (l:List α):Prop :=
 w.ownsRow B e sz v l.length (l.flatMap cs)
variable {e:TypeId} {v:Value}
theorem Own.nil_:Own cs sz e w B (.slice none 0 0) []:=World.ownsRow_nil w B e sz
theorem Own.lt (h:Own cs sz e w B v l):∀ k,v.ownBlock=some k→B≤k∧k<w.heap.size:=World.ownsRow.lt h
theorem Own.alloc (h:Own cs sz e w B v l) (o:Obj):Own cs sz e (w.alloc o) B v l:=World.ownsRow.alloc h o
theorem Own.below (h:Own cs sz e w B v l) (hb:Below w.heap.size w w'):Own cs sz e w' B v l:=by
 refine⟨h.1,?_⟩
 rcases h.2 with hn | ⟨g,cap,cur,rfl,hB,hgg,rest⟩
 · exact .inl hn
 · exact .inr ⟨g,cap,cur,rfl,hB,by rw[hb.block g (Array.getElem?_eq_some_iff.1 hgg).1];exact hgg,rest⟩
theorem Own.drew (h:Own cs sz e w B v l):Own cs sz e w.drew B v l:=h
theorem Own.drewN (h:Own cs sz e w B v l) (k:Nat):Own cs sz e (w.drewN k) B v l:=h
theorem Own.row (hs:∀ x,(cs x).length=sz) (h:Own cs sz e w B v l):∃ A c,v = .slice A l.length c∧RowOf cs sz w w.heap.size A l:=by
 have h0:=h
 rcases h.2 with⟨rfl,hn⟩ | ⟨g,cap,cur,rfl,hB,hgg,hcap,hm,hsz,htake⟩
 · exact⟨none,0,by rw[hn],fun hp=>absurd hn zxo⟩
 · refine⟨some ⟨g,0,none⟩,cap,rfl,fun hp=>⟨g,0,rfl,(Array.getElem?_eq_some_iff.1 hgg).1,fun i x hx j u hu=>?_⟩⟩
   have hf:=qcV hs l i x hx j u hu
   have hlt:i*sz+j<l.length*sz:=by
    have h1:i*sz+j<(l.flatMap cs).length:=by
     rcases Nat.lt_or_ge (i*sz+j) (l.flatMap cs).length with h | h
     · exact h
     · rw[List.getElem?_eq_none h] at hf;cases hf
    rwa [qaW hs] at h1
   rw[Nat.zero_add,World.ownsRow.cellAt h0 (i*sz+j) hlt]
   exact hf
end
section
variable {P:Program} {α:Type} {cs:α→List Value} {sz:Nat}
theorem qo {ops:Array Oper} {rest:List Oper} {o:Oper} {a:Act} {Q:Exit→Act→World→Prop} (hgd:o.guard=none) (s x:Operand) (t:TypeId)
  (ho:o.op = .call { callee:=.builtin .append,args:=#[s,x],argTypes:=#[t,t] })
  (e:TypeId) (i:TypeInfo) (z:Value) (bytes:Nat) (ht:P.underlying t=some (.slice e)) (hi:P.info? e=some i) (hz:i.zero=some z)
  (hsize:i.size=sz) (hby:i.bytes=bytes) (hzs:z.cells.size=sz) (hsz:0<sz) (hone:∀ y,(cs y).length=sz) (hone1:∀ y,∀ u∈cs y,u.oneCell'=true)
  (W:World) (B g:Nat) (v:Value) (l:List α) (y:α) (arr:Array Value) (harr:arr=(cs y).toArray) (hs:a.eval s=v) (hx:a.eval x = .slice (some ⟨g,0,none⟩) 1 1) (hgs:g=W.heap.size)
  (hown:Own cs sz e W B v l) (h63:l.length+1≤maxLen) (hbytes:(l.length+1)*bytes≤140737488355328) (hbase:B≤W.heap.size)
  (h:∀ v' w',Own cs sz e w' B v' (l++[y])→W.grownBy w' v.ownBlock→(v'.ownBlock=v.ownBlock∨v'.ownBlock=some (W.heap.size+1))→wpList P ops Q rest (a.put o.dst v') w') :
  wpList P ops Q (o::rest) a (W.alloc (.cells arr e)):=by
 subst hgs harr
 refine wpList_append_own_at _ hgd s x t ho B e i z sz bytes ht hi hz hsize hby hzs hsz v l.length (l.flatMap cs) hs (World.ownsRow.alloc hown _) ⟨W.heap.size,0,none⟩ 1 1 (cs y) hx (by rw[hone];omega)
  ?_ (hone1 y) h63 hbytes (by simp;omega) ?_
 · intro j u hu
   rw[Addr.add_lit,Nat.zero_add,World.cell?_alloc_at _ _ _ _ rfl]
   simpa using hu
 · intro v' w' hown' hg _ hat
   refine h v' w' ?_ ((World.grownBy_alloc W _ v.ownBlock).trans hg) (by simpa using hat)
   unfold Own
   simpa[List.flatMap_append] using hown'
theorem qI {B:Nat} {w0 W w':World} {e:TypeId} {v:Value} {l:List α} (hb:Below B w0 W) (hown:Own cs sz e W B v l) (hB:B≤W.heap.size) (hg:W.grownBy w' v.ownBlock):Below B w0 w' :=
 hb.grown hg hB fun k hk=>(hown.lt k hk).1
end
theorem qa {a b c:World} (h:Below a.heap.size a b) (k:Below b.heap.size b c):Below a.heap.size a c:=h.trans (k.mono h.size)
theorem qQ {a b:World} (h:Below a.heap.size a b) (n:Nat):Below a.heap.size a (b.drewN n):=⟨h.os,h.tape,h.output,h.size,h.block⟩
theorem J5 {α:Type} {l:List α} {k:Nat} {x:α} (hx:l[k]?=some x):l.drop k=x::l.drop (k+1):=by
 have hlt:k<l.length:=by
  exact qj5
 rw[List.drop_eq_getElem_cons hlt]
 rw[List.getElem?_eq_getElem hlt] at hx
 cases hx
 rfl
theorem qdx {α:Type} {l:List α} {k:Nat} {x:α} (hx:l[k]?=some x):l.take (k+1)=l.take k++[x]:=by
 rw[List.take_add_one,hx];rfl
theorem jx {α:Type} {l:List α} {k:Nat} (h:k<l.length):∃ x,l[k]?=some x:=⟨l[k],List.getElem?_eq_getElem h⟩
section
open Go.RowKit Go.Lib
theorem Qc {w:World} {n:String} {g:Nat} {cs:Array Value} (hg:Tryz.prog.globalNamed n=some g) (h:w.var? Tryz.prog n=some cs) (i:Nat) (hi:i<cs.size):w.cell? ⟨g,i,none⟩=some cs[i]:=by
 have:=World.var?_cell hg h i
 rw[this,Array.getElem?_eq_getElem hi]
theorem qlJ {w:World} (h:VarReads Tryz.prog w "internal/strconv.float64info" (.agg [.lit (.int .u64 52),.lit (.int .u64 11),.lit (.int .i64 (-1023))])):w.cell? ⟨9,0,none⟩=some (.int .u64 52):=by
 obtain⟨g,t,cs,fuel,p,hg,hty,hvar,hd⟩:=h
 obtain rfl:=Option.some.inj ((show Tryz.prog.globalNamed "internal/strconv.float64info" = some 9 by kernel_rfl).symm.trans hg)
 obtain rfl:=Option.some.inj ((show(Tryz.prog.globals[9]?).map (·.type)=some 230 by kernel_rfl).symm.trans hty)
 obtain⟨xs,n,rfl,hx,hl,hxl,hall⟩:=DataW.trod_struct Tryz.underlying230 hd
 have h0:DataW.trod (fun _=>()) Tryz.prog w 0 (fun _=>true) false n 74 ((cs.toList.drop 0).take (Tryz.prog.cellsOf 74))=xs[0]?:=hall 0 _ rfl
 rw[show Tryz.prog.cellsOf 230=3 by kernel_rfl] at hl
 rw[show Tryz.prog.cellsOf 74=1 by kernel_rfl] at h0
 have e0:xs.map (·.1)=[.lit (.int .u64 52),.lit (.int .u64 11),.lit (.int .i64 (-1023))]:=by
  have:=congrArg Prod.fst hx
  simpa using this.symm
 obtain⟨b,hb⟩:∃ b,xs[0]?=some b:=by
  cases xs with
  | nil=>simp at e0
  | cons x xs=>exact⟨x,rfl⟩
 rw[hb] at h0
 obtain⟨z,hcz,rfl,_⟩:=DataW.trod_int Tryz.underlying74 h0
 have hz:z=52:=by
  have:=congrArg (fun l=>l[0]?) e0
  simp[List.getElem?_map,hb] at this
  exact this
 subst hz
 have hsz:0<cs.size:=by rw[← Array.length_toList];omega
 rw[Qc (by kernel_rfl) hvar 0 hsz]
 have hh:cs.toList[0]?=some (Value.int .u64 52):=by
  have:=congrArg (fun l=>l[0]?) hcz
  simpa using this
 rw[← Array.getElem?_eq_getElem hsz]
 simpa using hh
theorem qnK {w:World} (h:VarReads Tryz.prog w "internal/strconv.optimize" (.lit (.bool true))):w.cell? ⟨8,0,none⟩=some (.bool true):=by
 obtain⟨g,t,cs,fuel,p,hg,hty,hvar,hd⟩:=h
 obtain rfl:=Option.some.inj ((show Tryz.prog.globalNamed "internal/strconv.optimize" = some 8 by kernel_rfl).symm.trans hg)
 obtain rfl:=Option.some.inj ((show(Tryz.prog.globals[8]?).map (·.type)=some 4 by kernel_rfl).symm.trans hty)
 obtain⟨b,hcs,hx⟩:=DataW.trod_bool Tryz.underlying4 hd
 injection hx with hx _
 injection hx with hx
 injection hx with hx
 subst hx
 have hsz:0<cs.size:=by rw[← Array.length_toList,hcs];simp
 rw[Qc (by kernel_rfl) hvar 0 hsz]
 have:cs=#[.bool true]:=by rw[← Array.toList_inj];exact hcs
 subst this
 rfl
theorem qjc {w:World} {n:String} {g t e m:Nat} {k:IntKind} {zs:List Int} (hg:Tryz.prog.globalNamed n=some g) (hty:(Tryz.prog.globals[g]?).map (·.type)=some t) (ht:Tryz.prog.underlying t=some (.array m e)) (he:Tryz.prog.underlying e=some (.int k))
  (hce:Tryz.prog.cellsOf e=1) (hct:Tryz.prog.cellsOf t=m) (h:VarReads Tryz.prog w n (tabData k zs)):TabIs Tryz.prog w n k zs:=by
 obtain⟨g',t',cs,fuel,p,hg',hty',hvar,hd⟩:=h
 obtain rfl:=Option.some.inj (hg.symm.trans hg')
 obtain rfl:=Option.some.inj (hty.symm.trans hty')
 have:=cells_of_tab ht he hce hct hd
 unfold TabIs
 rw[hvar,← this]
theorem qoQ {w:World} {ds:List (DataW Unit)} (hlen:ds.length=23) (h1:ds[1]?=some (.lit (.float .f64 4621819117588971520))) (h:VarReads Tryz.prog w "internal/strconv.float64pow10" (.slice ds [])) :
  ∃ pb po c,w.cell? ⟨12,0,none⟩=some (.slice (some ⟨pb,po,none⟩) 23 c)∧w.cell? ⟨pb,po+1,none⟩=some (.float .f64 4621819117588971520):=by
 obtain⟨g,t,cs,fuel,p,hg,hty,hvar,hd⟩:=h
 obtain rfl:=Option.some.inj ((show Tryz.prog.globalNamed "internal/strconv.float64pow10" = some 12 by kernel_rfl).symm.trans hg)
 obtain rfl:=Option.some.inj ((show(Tryz.prog.globals[12]?).map (·.type)=some 264 by kernel_rfl).symm.trans hty)
 rcases DataW.trod_slice Tryz.underlying264 hd with⟨_,hx⟩ | ⟨a,len,cap,el,rs,m,rfl,hcs,hx,_,hlc,_,hel,helem,_,_⟩
 · cases hx
 · have e0:=congrArg Prod.fst hx
   simp only[DataW.slice.injEq] at e0
   obtain⟨eE,_⟩:=e0
   have hl:len=23:=by
    exact qpp
   subst hl
   have hi:=helem 1 zxo
   rw[show Tryz.prog.cellsOf 171=1 by kernel_rfl] at hi
   obtain⟨b,hb⟩:∃ b,el[1]?=some b:=⟨el[1]'zxo,List.getElem?_eq_getElem zxo⟩
   have hb1:b.1 = .lit (.float .f64 4621819117588971520):=by
    have:=congrArg (fun l=>l[1]?) eE
    simp only[List.getElem?_map,hb,h1] at this
    simpa using this.symm
   rw[hb] at hi
   obtain⟨c1,hc1,ht1⟩:=Option.bind_eq_some_iff.1 hi
   obtain⟨_,hcl,hat⟩:=World.cells?_some hc1
   cases m with
   | zero=>simp[DataW.trod] at ht1
   | succ m =>
    unfold DataW.trod at ht1
    simp only[Tryz.underlying171] at ht1
    match c1,hcl,ht1 with
    | [v],_,ht1 =>
     cases v with
     | float k bts =>
      have hv:k = .f64∧bts=4621819117588971520:=by
       exact qpR
      obtain⟨rfl,rfl⟩:=hv
      have h10:w.cell? ⟨12,0,none⟩=some (.slice (some a) 23 cap):=by
       exact qrE
      have hcc:=hat 0 zxs
      have hi0:=helem 0 zxo
      rw[show Tryz.prog.cellsOf 171=1 by kernel_rfl] at hi0
      obtain⟨b0,hb0⟩:∃ b,el[0]?=some b:=⟨el[0]'zxo,List.getElem?_eq_getElem zxo⟩
      rw[hb0] at hi0
      obtain⟨c0,hc0,ht0⟩:=Option.bind_eq_some_iff.1 hi0
      obtain⟨_,hcl0,hat0⟩:=World.cells?_some hc0
      have hs0:=hat0 0 zxo
      obtain⟨u0,hu0⟩:∃ u,c0[0]?=some u:=⟨c0[0]'zxo,List.getElem?_eq_getElem zxo⟩
      rw[hu0] at hs0
      have hspot:a.spot=none:=World.cell?_spot (by simpa[Addr.add] using hs0)
      obtain⟨pb,po,spot⟩:=a
      dsimp only at hspot
      subst hspot
      exact⟨pb,po,cap,h10,by simpa[Addr.add] using hcc⟩
     | _=>simp at ht1
theorem qnc:(Rows.laid_internal_strconv_uint64pow10:DataW Unit)=tabData .u64 Lib.pow10Tab:=by kernel_rfl
def qfd:List Int:=[0,1,56,2,57,49,28,3,61,58,42,50,38,29,17,4,62,47,59,36,45,43,51,22,53,39,33,30,24,18,12,5,63,55,48,27,60,41,37,16,46,35,44,21,52,32,23,11,54,26,40,15,34,20,31,10,25,14,19,9,13,8,7,6]
theorem qn8 {w:World} (hsh:w.ShapedOpen Tryz.prog) (hL:laidMet Tryz.prog Rows.astChecksRow.laid w):Glob w:=by
 have h7:=qlJ (Lib.laidMet.reads hL (by simp[Rows.astChecksRow,Rows.laid_internal_strconv_float64info]))
 have h6:=qnK (Lib.laidMet.reads hL (by simp[Rows.astChecksRow,Rows.laid_internal_strconv_optimize]))
 have h10:=qoQ (ds:=(match (Rows.laid_internal_strconv_float64pow10:DataW Unit) with | .slice l _=>l | _=>[])) (by rfl) (by rfl) (Lib.laidMet.reads hL (by simp[Rows.astChecksRow,Rows.laid_internal_strconv_float64pow10]))
 have h12:=qjc (n := "math/bits.deBruijn64tab") (g:=17) (t:=286) (e:=5) (m:=64) (k:=.u8) (zs:=qfd) (by kernel_rfl) (by kernel_rfl) Tryz.underlying286 Tryz.underlying5 (by kernel_rfl) (by kernel_rfl) (Lib.laidMet.reads hL (by simp[Rows.astChecksRow,Rows.laid_math_bits_deBruijn64tab,qfd,tabData]))
 have h3:=qjc (n := "internal/strconv.uint64pow10") (g:=14) (t:=275) (e:=87) (m:=20) (k:=.u64) (zs:=Lib.pow10Tab) (by kernel_rfl) (by kernel_rfl) Tryz.underlying275 Tryz.underlying87 (by kernel_rfl) (by kernel_rfl) (Lib.laidMet.reads hL (by rw[← qnc];simp[Rows.astChecksRow]))
 have hc:=h12.cell (g:=17) (by kernel_rfl) 15 zxd
 exact⟨⟨Tryz.laysM145.s1_3 w hsh,h7,h6,h10⟩,hc,h3⟩
end
end Go.Proofs.YtacdfjlncfidgaaGreatDoor
