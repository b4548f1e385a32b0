/- A part of what the claim leans on. -/
import Derived.Test.YtacdfjlncfidgaaGreatDoorQS
import Derived.Deep.Cut
import Derived.Test.YtacdfjlncfidgaaGreatDoorTY
import Derived.Test.YtacdfjlncfidgaaGreatDoorTX
namespace Go.Proofs.YtacdfjlncfidgaaGreatDoor
open Go.RowKit
set_option linter.unusedVariables false
set_option linter.unusedSimpArgs false
set_option maxHeartbeats 32000000
set_option maxRecDepth 100000
theorem qhz {c:Prop} [Decidable c] {x y:List (List Nat)×Bool} {row:List Nat} (h:row∈(if c then x else y).1):(c∧row∈x.1)∨(¬ c∧row∈y.1):=by
 by_cases hc:c
 · rw[if_pos hc] at h;exact .inl ⟨hc,h⟩
 · rw[if_neg hc] at h;exact .inr ⟨hc,h⟩
theorem qge (t:Tree) (need:Nat) (head:Bool):∀ row∈(jh t need head).1,t.kind≠1→∀ d∈row,d≤2000:=by
 have hL:=qjP t.name
 have hLL:∀ (k:Int) (b:Bool) (l:List Tree) (i:Nat),∀ row∈j8 k b i l,∀ d∈row,d≤2000:=by
  intro k b l
  induction l with
  | nil=>intro i row h;simp[j8] at h
  | cons x l ih =>
   intro i row h d hd
   rw[j8,List.mem_cons] at h
   rcases h with rfl | h
   · revert hd
     repeat' split
     all_goals (intro hd;simp at hd;omega)
   · exact ih _ row h d hd
 intro row hr h1 d hd
 unfold jh at hr
 cases head<;>simp only[if_true,if_false,Bool.false_eq_true,reduceIte] at hr
 all_goals (
  repeat' (rcases qhz hr with⟨hc,hr⟩ | ⟨hc,hr⟩)
  all_goals first | exact hLL _ _ _ _ row hr d hd | exact absurd zxa h1 | (simp at hr;done) | (simp only[List.mem_cons,List.not_mem_nil,or_false] at hr;(repeat' (rcases hr with rfl | hr));all_goals (try subst hr);all_goals (simp at hd;omega)))
theorem qf9 (t:Tree) (need:Nat) (head:Bool):∀ row∈(jh t need head).1,t.kind≠1→row.length≤4:=by
 have hLL:∀ (k:Int) (b:Bool) (l:List Tree) (i:Nat),∀ row∈j8 k b i l,row.length≤4:=by
  intro k b l
  induction l with
  | nil=>intro i row h;simp[j8] at h
  | cons x l ih =>
   intro i row h
   rw[j8,List.mem_cons] at h
   rcases h with rfl | h
   · repeat' split
     all_goals simp
   · exact ih _ row h
 intro row hr h1
 unfold jh at hr
 cases head<;>simp only[if_true,if_false,Bool.false_eq_true,reduceIte] at hr
 all_goals (
  repeat' (rcases qhz hr with⟨hc,hr⟩ | ⟨hc,hr⟩)
  all_goals first | exact hLL _ _ _ _ row hr | exact absurd zxa h1 | (simp at hr;done) | (simp only[List.mem_cons,List.not_mem_nil,or_false] at hr;(repeat' (rcases hr with rfl | hr));all_goals (try subst hr);all_goals simp))
def qu5 (nm:BL→Bool) (tok:BL→Int→Bool) (t:Tree) (m:Nat) (head:Bool) (jz:Nat):Bool :=
 (qL m).contains t.kind&&qK nm tok t m && !((decide (t.kind=31)&&decide (jV t.name<jz))||(decide (t.kind=30)&&decide (6<jz))||(decide (t.kind=28)&&head)) && !(decide (m=18)&&decide (t.kind=32) && !decide (t.name=QC) && !decide (t.name=Qz))
theorem qpt (nm:BL→Bool) (tok:BL→Int→Bool) (t:Tree) (m:Nat) (head:Bool) (jz:Nat):QP nm tok t m head jz=(qu5 nm tok t m head jz&&(jh t m head).2):=by
 unfold QP qu5
 generalize (qL m).contains t.kind=x0
 generalize qK nm tok t m=x1
 generalize (decide (t.kind=31)&&decide (jV t.name<jz))=x2
 generalize (decide (t.kind=30)&&decide (6<jz))=x3
 generalize (decide (t.kind=28)&&head)=x4
 generalize (decide (m=18)&&decide (t.kind=32) && !decide (t.name=QC) && !decide (t.name=Qz))=x5
 generalize (jh t m head).2=x6
 cases x0<;>cases x1<;>cases x2<;>cases x3<;>cases x4<;>cases x5<;>cases x6<;>rfl
theorem Qo {w wr w2:World} {v:Value} {gs:List (Nat×Nat)} {rows rows2:List (List Nat)} {c:Nat} {ci:Int} {arr:Array Value} (hc:ci=(c:Nat)) (hO:Own JT 1 56 wr (w.heap.size) v gs) (hR:RowsAt wr gs rows) (hX:wr.heap[w.heap.size]?=some (.cells arr 24 (0,0))) (hB:Below w.heap.size w wr)
  (hg:(wr.alloc (.cells #[.int .i64 ci] 3)).grownBy w2 v.ownBlock) (hr:rows2=rows++[[c]]):RowsAt w2 (gs++[(wr.heap.size,1)]) rows2∧w2.heap[w.heap.size]?=some (.cells arr 24 (0,0))∧Below w.heap.size w w2:=by
 subst hc hr
 have hO1:=hO.alloc (.cells #[.int .i64 (c:Nat)] 3)
 have hB1:=hB.alloc hB.size (.cells #[.int .i64 (c:Nat)] 3)
 exact⟨RowsAt.snoc (row:=[c]) (qbr hO1 hg (heap_alloc_new _ _) zxd) ((hR.later (zA (zR _))).grown hO1 hg),qbr hO1 hg (qb hX) zxd,qI hB1 hO1 hB1.size hg⟩
theorem qkZ (f en a:Int) (n:BL) (l:List Tree) (A:Option Addr) (cap need:Nat) (head H:Bool) (hH:H=head) (w:World) (hkid:KidsM w w.heap.size A l) (hl:l.length≤3000) :
  Calls Tryz.prog 45 #[(⟨3,f,en,a,qn n,A,l.length,cap⟩:RN).val,.int .i64 need,.bool head] w (jd (qP 3 H l,(decide ((3:Int)≠27)&&decide ((3:Int)≠28)) || !l.isEmpty) w):=by
 obtain⟨i56,hi56,hz0,hz1,hz2⟩:=jg qaL
 have HK:=zxi hkid
 have HH:=zxi hH
 clear hkid hH
 unfold RN.val
 cases head
 all_goals (
  go_enter Tryz.func45,Tryz.ntmps45
  go_wp2_with fail
  go_loopw [10,11] (fun v i wr=>∃ (j:Nat) (gs:List (Nat×Nat)) (u:Value),j≤l.length∧gs.length≤j∧i = .int .i64 j∧u=v∧Own JT 1 56 wr w.heap.size u gs∧RowsAt wr gs (qP 3 H (l.take j))∧wr.heap[w.heap.size]?=some (qd ⟨3,f,en,a,qn n,A,l.length,cap⟩)∧Below w.heap.size w wr) (fun _ i _=>l.length-(intOf i).toNat)
  case atStart=>exact⟨0,[],_,Nat.zero_le _,Nat.le_refl _,rfl,rfl,Own.nil_,trivial,heap_alloc_new _ _,zA (zR _)⟩
  case round =>
   obtain⟨j,gs,v,hj,hgs,rfl,rfl,hown,hra,hbx,hb⟩:=hrel
   have HO:=zxi hown
   have HRA:=zxi hra
   have HX:=zxi hbx
   have HB:=zxi hb
   obtain⟨e0,e1,e2,e3,e4,e5,ez,el⟩:=qD hbx
   clear hown hra hbx hb
   by_cases hlt:j<l.length
   · obtain⟨x,hx⟩:∃ x,l[j]?=some x:=⟨_,List.getElem?_eq_getElem hlt⟩
     have HXX:=zxi hx
     have HR:=zxi (show qP 3 H (l.take (j+1))=qP 3 H (l.take j)++[[3]] from by rw[jw HXX.out zxd];rfl)
     go_wp2_with (at_builtin;go_must (refine qr (cs:=JT) rfl _ _ 53 rfl 56 i56 _ 24 Tryz.underlying53 hi56 hz0 hz1 hz2 rfl zxd qR jF (wr.alloc (.cells #[.int .i64 3] 3)) w.heap.size (wr.heap.size+1) v gs (wr.heap.size,1) _ rfl (by rfl) (by rfl) zxs (HO.out.alloc _) (by unfold maxLen;omega) zxo (by rw[World.size_alloc];have:=HB.out.size;omega) ?_);intro g2 cap2 w2 ho2 hg2 hat2 hlt2)
     have HP:=zxi (And.intro ho2 (Qo (c:=3) (ci:=3) (by rfl) HO.out HRA.out HX.out HB.out hg2 HR.out))
     exact ql4
   · have HRW:=zxi (show l.take j=l from List.take_of_length_le zxo)
     rw[HRW.out] at HRA
     clear HRW
     obtain⟨A',c',rfl,hrow⟩:=HO.out.row qR
     have HRW:=zxi hrow
     clear hrow
     go_wp2_with fail
     have HKP:=zxi (fun W' (hBW:Below wr.heap.size wr W')=>(show(zS wr w.heap.size ⟨3,f,en,a,qn n,A,l.length,cap⟩) W' from by exact qh HX.out hBW))
     exact qpH
  )
theorem qki (f en a:Int) (n:BL) (l:List Tree) (A:Option Addr) (cap need:Nat) (head H:Bool) (hH:H=head) (w:World) (hkid:KidsM w w.heap.size A l) (hl:l.length≤3000) :
  Calls Tryz.prog 45 #[(⟨6,f,en,a,qn n,A,l.length,cap⟩:RN).val,.int .i64 need,.bool head] w (jd (qP 6 H l,(decide ((6:Int)≠27)&&decide ((6:Int)≠28)) || !l.isEmpty) w):=by
 obtain⟨i56,hi56,hz0,hz1,hz2⟩:=jg qaL
 have HK:=zxi hkid
 have HH:=zxi hH
 clear hkid hH
 unfold RN.val
 cases head
 all_goals (
  go_enter Tryz.func45,Tryz.ntmps45
  go_wp2_with fail
  go_loopw [10,11] (fun v i wr=>∃ (j:Nat) (gs:List (Nat×Nat)) (u:Value),j≤l.length∧gs.length≤j∧i = .int .i64 j∧u=v∧Own JT 1 56 wr w.heap.size u gs∧RowsAt wr gs (qP 6 H (l.take j))∧wr.heap[w.heap.size]?=some (qd ⟨6,f,en,a,qn n,A,l.length,cap⟩)∧Below w.heap.size w wr) (fun _ i _=>l.length-(intOf i).toNat)
  case atStart=>exact⟨0,[],_,Nat.zero_le _,Nat.le_refl _,rfl,rfl,Own.nil_,trivial,heap_alloc_new _ _,zA (zR _)⟩
  case round =>
   obtain⟨j,gs,v,hj,hgs,rfl,rfl,hown,hra,hbx,hb⟩:=hrel
   have HO:=zxi hown
   have HRA:=zxi hra
   have HX:=zxi hbx
   have HB:=zxi hb
   obtain⟨e0,e1,e2,e3,e4,e5,ez,el⟩:=qD hbx
   clear hown hra hbx hb
   by_cases hlt:j<l.length
   · obtain⟨x,hx⟩:∃ x,l[j]?=some x:=⟨_,List.getElem?_eq_getElem hlt⟩
     have HXX:=zxi hx
     have HR:=zxi (show qP 6 H (l.take (j+1))=qP 6 H (l.take j)++[[4]] from by rw[jw HXX.out zxd];rfl)
     go_wp2_with (at_builtin;go_must (refine qr (cs:=JT) rfl _ _ 53 rfl 56 i56 _ 24 Tryz.underlying53 hi56 hz0 hz1 hz2 rfl zxd qR jF (wr.alloc (.cells #[.int .i64 4] 3)) w.heap.size (wr.heap.size+1) v gs (wr.heap.size,1) _ rfl (by rfl) (by rfl) zxs (HO.out.alloc _) (by unfold maxLen;omega) zxo (by rw[World.size_alloc];have:=HB.out.size;omega) ?_);intro g2 cap2 w2 ho2 hg2 hat2 hlt2)
     have HP:=zxi (And.intro ho2 (Qo (c:=4) (ci:=4) (by rfl) HO.out HRA.out HX.out HB.out hg2 HR.out))
     exact ql4
   · have HRW:=zxi (show l.take j=l from List.take_of_length_le zxo)
     rw[HRW.out] at HRA
     clear HRW
     obtain⟨A',c',rfl,hrow⟩:=HO.out.row qR
     have HRW:=zxi hrow
     clear hrow
     go_wp2_with fail
     have HKP:=zxi (fun W' (hBW:Below wr.heap.size wr W')=>(show(zS wr w.heap.size ⟨6,f,en,a,qn n,A,l.length,cap⟩) W' from by exact qh HX.out hBW))
     exact qpH
  )
theorem qhY (f en a:Int) (n:BL) (l:List Tree) (A:Option Addr) (cap need:Nat) (head H:Bool) (hH:H=head) (w:World) (hkid:KidsM w w.heap.size A l) (hl:l.length≤3000) :
  Calls Tryz.prog 45 #[(⟨10,f,en,a,qn n,A,l.length,cap⟩:RN).val,.int .i64 need,.bool head] w (jd (qP 10 H l,(decide ((10:Int)≠27)&&decide ((10:Int)≠28)) || !l.isEmpty) w):=by
 obtain⟨i56,hi56,hz0,hz1,hz2⟩:=jg qaL
 have HK:=zxi hkid
 have HH:=zxi hH
 clear hkid hH
 unfold RN.val
 cases head
 all_goals (
  go_enter Tryz.func45,Tryz.ntmps45
  go_wp2_with fail
  go_loopw [10,11] (fun v i wr=>∃ (j:Nat) (gs:List (Nat×Nat)) (u:Value),j≤l.length∧gs.length≤j∧i = .int .i64 j∧u=v∧Own JT 1 56 wr w.heap.size u gs∧RowsAt wr gs (qP 10 H (l.take j))∧wr.heap[w.heap.size]?=some (qd ⟨10,f,en,a,qn n,A,l.length,cap⟩)∧Below w.heap.size w wr) (fun _ i _=>l.length-(intOf i).toNat)
  case atStart=>exact⟨0,[],_,Nat.zero_le _,Nat.le_refl _,rfl,rfl,Own.nil_,trivial,heap_alloc_new _ _,zA (zR _)⟩
  case round =>
   obtain⟨j,gs,v,hj,hgs,rfl,rfl,hown,hra,hbx,hb⟩:=hrel
   have HO:=zxi hown
   have HRA:=zxi hra
   have HX:=zxi hbx
   have HB:=zxi hb
   obtain⟨e0,e1,e2,e3,e4,e5,ez,el⟩:=qD hbx
   clear hown hra hbx hb
   by_cases hlt:j<l.length
   · obtain⟨x,hx⟩:∃ x,l[j]?=some x:=⟨_,List.getElem?_eq_getElem hlt⟩
     have HXX:=zxi hx
     have HR:=zxi (show qP 10 H (l.take (j+1))=qP 10 H (l.take j)++[[11]] from by rw[jw HXX.out zxd];rfl)
     go_wp2_with (at_builtin;go_must (refine qr (cs:=JT) rfl _ _ 53 rfl 56 i56 _ 24 Tryz.underlying53 hi56 hz0 hz1 hz2 rfl zxd qR jF (wr.alloc (.cells #[.int .i64 11] 3)) w.heap.size (wr.heap.size+1) v gs (wr.heap.size,1) _ rfl (by rfl) (by rfl) zxs (HO.out.alloc _) (by unfold maxLen;omega) zxo (by rw[World.size_alloc];have:=HB.out.size;omega) ?_);intro g2 cap2 w2 ho2 hg2 hat2 hlt2)
     have HP:=zxi (And.intro ho2 (Qo (c:=11) (ci:=11) (by rfl) HO.out HRA.out HX.out HB.out hg2 HR.out))
     exact ql4
   · have HRW:=zxi (show l.take j=l from List.take_of_length_le zxo)
     rw[HRW.out] at HRA
     clear HRW
     obtain⟨A',c',rfl,hrow⟩:=HO.out.row qR
     have HRW:=zxi hrow
     clear hrow
     go_wp2_with fail
     have HKP:=zxi (fun W' (hBW:Below wr.heap.size wr W')=>(show(zS wr w.heap.size ⟨10,f,en,a,qn n,A,l.length,cap⟩) W' from by exact qh HX.out hBW))
     exact qpH
  )
theorem qh5 (f en a:Int) (n:BL) (l:List Tree) (A:Option Addr) (cap need:Nat) (head H:Bool) (hH:H=head) (w:World) (hkid:KidsM w w.heap.size A l) (hl:l.length≤3000) :
  Calls Tryz.prog 45 #[(⟨32,f,en,a,qn n,A,l.length,cap⟩:RN).val,.int .i64 need,.bool head] w (jd (qP 32 H l,(decide ((32:Int)≠27)&&decide ((32:Int)≠28)) || !l.isEmpty) w):=by
 obtain⟨i56,hi56,hz0,hz1,hz2⟩:=jg qaL
 have HK:=zxi hkid
 have HH:=zxi hH
 clear hkid hH
 unfold RN.val
 cases head
 all_goals (
  go_enter Tryz.func45,Tryz.ntmps45
  go_wp2_with fail
  go_loopw [10,11] (fun v i wr=>∃ (j:Nat) (gs:List (Nat×Nat)) (u:Value),j≤l.length∧gs.length≤j∧i = .int .i64 j∧u=v∧Own JT 1 56 wr w.heap.size u gs∧RowsAt wr gs (qP 32 H (l.take j))∧wr.heap[w.heap.size]?=some (qd ⟨32,f,en,a,qn n,A,l.length,cap⟩)∧Below w.heap.size w wr) (fun _ i _=>l.length-(intOf i).toNat)
  case atStart=>exact⟨0,[],_,Nat.zero_le _,Nat.le_refl _,rfl,rfl,Own.nil_,trivial,heap_alloc_new _ _,zA (zR _)⟩
  case round =>
   obtain⟨j,gs,v,hj,hgs,rfl,rfl,hown,hra,hbx,hb⟩:=hrel
   have HO:=zxi hown
   have HRA:=zxi hra
   have HX:=zxi hbx
   have HB:=zxi hb
   obtain⟨e0,e1,e2,e3,e4,e5,ez,el⟩:=qD hbx
   clear hown hra hbx hb
   by_cases hlt:j<l.length
   · obtain⟨x,hx⟩:∃ x,l[j]?=some x:=⟨_,List.getElem?_eq_getElem hlt⟩
     have HXX:=zxi hx
     have HR:=zxi (show qP 32 H (l.take (j+1))=qP 32 H (l.take j)++[[101]] from by rw[jw HXX.out zxd];rfl)
     exact qrv
   · have HRW:=zxi (show l.take j=l from List.take_of_length_le zxo)
     rw[HRW.out] at HRA
     clear HRW
     obtain⟨A',c',rfl,hrow⟩:=HO.out.row qR
     have HRW:=zxi hrow
     clear hrow
     go_wp2_with fail
     have HKP:=zxi (fun W' (hBW:Below wr.heap.size wr W')=>(show(zS wr w.heap.size ⟨32,f,en,a,qn n,A,l.length,cap⟩) W' from by exact qh HX.out hBW))
     exact qpH
  )
theorem qja (f en a:Int) (n:BL) (l:List Tree) (A:Option Addr) (cap need:Nat) (head H:Bool) (hH:H=head) (w:World) (hkid:KidsM w w.heap.size A l) (hl:l.length≤3000) :
  Calls Tryz.prog 45 #[(⟨28,f,en,a,qn n,A,l.length,cap⟩:RN).val,.int .i64 need,.bool head] w (jd (qP 28 H l,(decide ((28:Int)≠27)&&decide ((28:Int)≠28)) || !l.isEmpty) w):=by
 obtain⟨i56,hi56,hz0,hz1,hz2⟩:=jg qaL
 have HK:=zxi hkid
 have HH:=zxi hH
 clear hkid hH
 unfold RN.val
 cases head
 all_goals (
  go_enter Tryz.func45,Tryz.ntmps45
  go_wp2_with fail
  go_loopw [10,11] (fun v i wr=>∃ (j:Nat) (gs:List (Nat×Nat)) (u:Value),j≤l.length∧gs.length≤j∧i = .int .i64 j∧u=v∧Own JT 1 56 wr w.heap.size u gs∧RowsAt wr gs (qP 28 H (l.take j))∧wr.heap[w.heap.size]?=some (qd ⟨28,f,en,a,qn n,A,l.length,cap⟩)∧Below w.heap.size w wr) (fun _ i _=>l.length-(intOf i).toNat)
  case atStart=>exact⟨0,[],_,Nat.zero_le _,Nat.le_refl _,rfl,rfl,Own.nil_,trivial,heap_alloc_new _ _,zA (zR _)⟩
  case round =>
   obtain⟨j,gs,v,hj,hgs,rfl,rfl,hown,hra,hbx,hb⟩:=hrel
   have HO:=zxi hown
   have HRA:=zxi hra
   have HX:=zxi hbx
   have HB:=zxi hb
   obtain⟨e0,e1,e2,e3,e4,e5,ez,el⟩:=qD hbx
   clear hown hra hbx hb
   by_cases hlt:j<l.length
   · obtain⟨x,hx⟩:∃ x,l[j]?=some x:=⟨_,List.getElem?_eq_getElem hlt⟩
     have HXX:=zxi hx
     by_cases j0:j=0
     · have bj:((j:Int) == 0)=true:=beq_iff_eq.2 zxo
       have HR:=zxi (show qP 28 H (l.take (j+1))=qP 28 H (l.take j)++[[9]] from by rw[jw HXX.out zxd];simp[qnI,j0])
       go_wp2_with (at_builtin;go_must (refine qr (cs:=JT) rfl _ _ 53 rfl 56 i56 _ 24 Tryz.underlying53 hi56 hz0 hz1 hz2 rfl zxd qR jF (wr.alloc (.cells #[.int .i64 9] 3)) w.heap.size (wr.heap.size+1) v gs (wr.heap.size,1) _ rfl (by rfl) (by rfl) zxs (HO.out.alloc _) (by unfold maxLen;omega) zxo (by rw[World.size_alloc];have:=HB.out.size;omega) ?_);intro g2 cap2 w2 ho2 hg2 hat2 hlt2)
       have HP:=zxi (And.intro ho2 (Qo (c:=9) (ci:=9) (by rfl) HO.out HRA.out HX.out HB.out hg2 HR.out))
       exact ql4
     · have bj:((j:Int) == 0)=false:=beq_eq_false_iff_ne.2 zxo
       have HR:=zxi (show qP 28 H (l.take (j+1))=qP 28 H (l.take j)++[[19]] from by rw[jw HXX.out zxd];simp[qnI,j0])
       go_wp2_with (at_builtin;go_must (refine qr (cs:=JT) rfl _ _ 53 rfl 56 i56 _ 24 Tryz.underlying53 hi56 hz0 hz1 hz2 rfl zxd qR jF (wr.alloc (.cells #[.int .i64 19] 3)) w.heap.size (wr.heap.size+1) v gs (wr.heap.size,1) _ rfl (by rfl) (by rfl) zxs (HO.out.alloc _) (by unfold maxLen;omega) zxo (by rw[World.size_alloc];have:=HB.out.size;omega) ?_);intro g2 cap2 w2 ho2 hg2 hat2 hlt2)
       have HP:=zxi (And.intro ho2 (Qo (c:=19) (ci:=19) (by rfl) HO.out HRA.out HX.out HB.out hg2 HR.out))
       exact ql4
   · have HRW:=zxi (show l.take j=l from List.take_of_length_le zxo)
     rw[HRW.out] at HRA
     clear HRW
     obtain⟨A',c',rfl,hrow⟩:=HO.out.row qR
     have HRW:=zxi hrow
     clear hrow
     go_wp2_with fail
     by_cases hl0:l.length=0
     · have bp:decide ((0:Int)<(l.length:Int))=false:=decide_eq_false zxo
       have HKP:=zxi (fun W' (hBW:Below wr.heap.size wr W')=>(show(zS wr w.heap.size ⟨28,f,en,a,qn n,A,l.length,cap⟩) W' from by exact qh HX.out hBW))
       refine zHD HKP fun hHeld=>?_
       refine zTk 0 (h:=?_)
       refine zTk 1 (h:=?_)
       refine zTk 2 (h:=?_)
       refine zTk 3 (h:=?_)
       refine zTk 4 (h:=?_)
       refine zTk 5 (h:=?_)
       refine zTk 6 (h:=?_)
       refine zTk 7 (h:=?_)
       refine zTk 8 (h:=?_)
       refine zTk 9 (h:=?_)
       refine zTk 10 (h:=?_)
       refine zTk 11 (h:=?_)
       refine zTk 12 (h:=?_)
       refine zTk 13 (h:=?_)
       refine zTk 14 (h:=?_)
       refine zTk 15 (h:=?_)
       refine zTk 16 (h:=?_)
       refine wpAnyH_done (by kernel_rfl) ?_ _
       go_wp2_with fail
       go_ret2
       rw[show((decide ((28:Int)≠27)&&decide ((28:Int)≠28)) || !l.isEmpty)=false by rw[List.length_eq_zero_iff.1 hl0];rfl]
       exact qid
     · have bp:decide ((0:Int)<(l.length:Int))=true:=decide_eq_true zxo
       have hpos:0<l.length:=by omega
       have bp2:decide (0<l.length)=true:=decide_eq_true hpos
       have HKP:=zxi (fun W' (hBW:Below wr.heap.size wr W')=>(show(zS wr w.heap.size ⟨28,f,en,a,qn n,A,l.length,cap⟩) W' from by exact qh HX.out hBW))
       refine zHD HKP fun hHeld=>?_
       refine zTk 0 (h:=?_)
       refine zTk 1 (h:=?_)
       refine zTk 2 (h:=?_)
       refine zTk 3 (h:=?_)
       refine zTk 4 (h:=?_)
       refine zTk 5 (h:=?_)
       refine zTk 6 (h:=?_)
       refine zTk 7 (h:=?_)
       refine zTk 8 (h:=?_)
       refine zTk 9 (h:=?_)
       refine zTk 10 (h:=?_)
       refine zTk 11 (h:=?_)
       refine zTk 12 (h:=?_)
       refine zTk 13 (h:=?_)
       refine zTk 14 (h:=?_)
       refine zTk 15 (h:=?_)
       refine zTk 16 (h:=?_)
       refine wpAnyH_done (by kernel_rfl) ?_ _
       go_wp2_with fail
       go_ret2
       rw[show((decide ((28:Int)≠27)&&decide ((28:Int)≠28)) || !l.isEmpty)=true by cases l with | nil=>exact absurd rfl hl0 | cons=>rfl]
       exact qid
  )
theorem qhO (f en a:Int) (n:BL) (l:List Tree) (A:Option Addr) (cap need:Nat) (head H:Bool) (hH:H=head) (w:World) (hkid:KidsM w w.heap.size A l) (hl:l.length≤3000) :
  Calls Tryz.prog 45 #[(⟨27,f,en,a,qn n,A,l.length,cap⟩:RN).val,.int .i64 need,.bool head] w (jd (qP 27 H l,(decide ((27:Int)≠27)&&decide ((27:Int)≠28)) || !l.isEmpty) w):=by
 obtain⟨i56,hi56,hz0,hz1,hz2⟩:=jg qaL
 have HK:=zxi hkid
 have HH:=zxi hH
 clear hkid hH
 unfold RN.val
 cases head
 · go_enter Tryz.func45,Tryz.ntmps45
   go_wp2_with fail
   go_loopw [10,11] (fun v i wr=>∃ (j:Nat) (gs:List (Nat×Nat)) (u:Value),j≤l.length∧gs.length≤j∧i = .int .i64 j∧u=v∧Own JT 1 56 wr w.heap.size u gs∧RowsAt wr gs (qP 27 H (l.take j))∧wr.heap[w.heap.size]?=some (qd ⟨27,f,en,a,qn n,A,l.length,cap⟩)∧Below w.heap.size w wr) (fun _ i _=>l.length-(intOf i).toNat)
   case atStart=>exact⟨0,[],_,Nat.zero_le _,Nat.le_refl _,rfl,rfl,Own.nil_,trivial,heap_alloc_new _ _,zA (zR _)⟩
   case round =>
    obtain⟨j,gs,v,hj,hgs,rfl,rfl,hown,hra,hbx,hb⟩:=hrel
    have HO:=zxi hown
    have HRA:=zxi hra
    have HX:=zxi hbx
    have HB:=zxi hb
    obtain⟨e0,e1,e2,e3,e4,e5,ez,el⟩:=qD hbx
    clear hown hra hbx hb
    by_cases hlt:j<l.length
    · obtain⟨x,hx⟩:∃ x,l[j]?=some x:=⟨_,List.getElem?_eq_getElem hlt⟩
      have HXX:=zxi hx
      by_cases j0:j=0
      · have bj:((j:Int) == 0)=true:=beq_iff_eq.2 zxo
        have HR:=zxi (show qP 27 H (l.take (j+1))=qP 27 H (l.take j)++[[20]] from by rw[jw HXX.out zxd];simp[qnI,j0,HH.out])
        go_wp2_with (at_builtin;go_must (refine qr (cs:=JT) rfl _ _ 53 rfl 56 i56 _ 24 Tryz.underlying53 hi56 hz0 hz1 hz2 rfl zxd qR jF (wr.alloc (.cells #[.int .i64 20] 3)) w.heap.size (wr.heap.size+1) v gs (wr.heap.size,1) _ rfl (by rfl) (by rfl) zxs (HO.out.alloc _) (by unfold maxLen;omega) zxo (by rw[World.size_alloc];have:=HB.out.size;omega) ?_);intro g2 cap2 w2 ho2 hg2 hat2 hlt2)
        have HP:=zxi (And.intro ho2 (Qo (c:=20) (ci:=20) (by rfl) HO.out HRA.out HX.out HB.out hg2 HR.out))
        exact ql4
      · exact qsy
    · exact qwL
 · go_enter Tryz.func45,Tryz.ntmps45
   go_wp2_with fail
   go_loopw [10,11] (fun v i wr=>∃ (j:Nat) (gs:List (Nat×Nat)) (u:Value),j≤l.length∧gs.length≤j∧i = .int .i64 j∧u=v∧Own JT 1 56 wr w.heap.size u gs∧RowsAt wr gs (qP 27 H (l.take j))∧wr.heap[w.heap.size]?=some (qd ⟨27,f,en,a,qn n,A,l.length,cap⟩)∧Below w.heap.size w wr) (fun _ i _=>l.length-(intOf i).toNat)
   case atStart=>exact⟨0,[],_,Nat.zero_le _,Nat.le_refl _,rfl,rfl,Own.nil_,trivial,heap_alloc_new _ _,zA (zR _)⟩
   case round =>
    obtain⟨j,gs,v,hj,hgs,rfl,rfl,hown,hra,hbx,hb⟩:=hrel
    have HO:=zxi hown
    have HRA:=zxi hra
    have HX:=zxi hbx
    have HB:=zxi hb
    obtain⟨e0,e1,e2,e3,e4,e5,ez,el⟩:=qD hbx
    clear hown hra hbx hb
    by_cases hlt:j<l.length
    · obtain⟨x,hx⟩:∃ x,l[j]?=some x:=⟨_,List.getElem?_eq_getElem hlt⟩
      have HXX:=zxi hx
      by_cases j0:j=0
      · have bj:((j:Int) == 0)=true:=beq_iff_eq.2 zxo
        have HR:=zxi (show qP 27 H (l.take (j+1))=qP 27 H (l.take j)++[[1020]] from by rw[jw HXX.out zxd];simp[qnI,j0,HH.out])
        go_wp2_with (at_builtin;go_must (refine qr (cs:=JT) rfl _ _ 53 rfl 56 i56 _ 24 Tryz.underlying53 hi56 hz0 hz1 hz2 rfl zxd qR jF (wr.alloc (.cells #[.int .i64 1020] 3)) w.heap.size (wr.heap.size+1) v gs (wr.heap.size,1) _ rfl (by rfl) (by rfl) zxs (HO.out.alloc _) (by unfold maxLen;omega) zxo (by rw[World.size_alloc];have:=HB.out.size;omega) ?_);intro g2 cap2 w2 ho2 hg2 hat2 hlt2)
        have HP:=zxi (And.intro ho2 (Qo (c:=1020) (ci:=1020) (by rfl) HO.out HRA.out HX.out HB.out hg2 HR.out))
        exact ql4
      · exact qsy
    · exact qwL
theorem qkB (f en a:Int) (n:BL) (l:List Tree) (A:Option Addr) (cap need:Nat) (head H:Bool) (hH:H=head) (w:World) (hkid:KidsM w w.heap.size A l) (hl:l.length≤3000) :
  Calls Tryz.prog 45 #[(⟨1,f,en,a,qn n,A,l.length,cap⟩:RN).val,.int .i64 need,.bool head] w (jd (qP 1 H l,(decide ((1:Int)≠27)&&decide ((1:Int)≠28)) || !l.isEmpty) w):=by
 obtain⟨i56,hi56,hz0,hz1,hz2⟩:=jg qaL
 have HK:=zxi hkid
 have HH:=zxi hH
 clear hkid hH
 unfold RN.val
 cases head
 all_goals (
  go_enter Tryz.func45,Tryz.ntmps45
  go_wp2_with fail
  go_loopw [10,11] (fun v i wr=>∃ (j:Nat) (gs:List (Nat×Nat)) (u:Value),j≤l.length∧gs.length≤j∧i = .int .i64 j∧u=v∧Own JT 1 56 wr w.heap.size u gs∧RowsAt wr gs (qP 1 H (l.take j))∧wr.heap[w.heap.size]?=some (qd ⟨1,f,en,a,qn n,A,l.length,cap⟩)∧Below w.heap.size w wr) (fun _ i _=>l.length-(intOf i).toNat)
  case atStart=>exact⟨0,[],_,Nat.zero_le _,Nat.le_refl _,rfl,rfl,Own.nil_,trivial,heap_alloc_new _ _,zA (zR _)⟩
  case round =>
   obtain⟨j,gs,v,hj,hgs,rfl,rfl,hown,hra,hbx,hb⟩:=hrel
   have HO:=zxi hown
   have HRA:=zxi hra
   have HX:=zxi hbx
   have HB:=zxi hb
   obtain⟨e0,e1,e2,e3,e4,e5,ez,el⟩:=qD hbx
   clear hown hra hbx hb
   by_cases hlt:j<l.length
   · obtain⟨x,hx⟩:∃ x,l[j]?=some x:=⟨_,List.getElem?_eq_getElem hlt⟩
     have HXX:=zxi hx
     obtain⟨bb,off,rx,rfl,hbb,hmx,c0,-,-,-,-,-⟩:=(HK.out.after zxn HB.out).at hx
     have HKX:=zxi hmx.kind
     clear hx hmx
     by_cases hx2:x.kind=2
     · have bx:rx.kind=2:=HKX.out.trans hx2
       rw[bx] at c0
       by_cases j0:j=0
       · subst j0
         simp only[Nat.zero_mul,Nat.add_zero] at c0
         have HR:=zxi (show qP 1 H (l.take (0+1))=qP 1 H (l.take 0)++[[1]] from by rw[Jv HXX.out,hx2];rfl)
         go_wp2_with (at_builtin;go_must (refine qr (cs:=JT) rfl _ _ 53 rfl 56 i56 _ 24 Tryz.underlying53 hi56 hz0 hz1 hz2 rfl zxd qR jF (wr.alloc (.cells #[.int .i64 1] 3)) w.heap.size (wr.heap.size+1) v gs (wr.heap.size,1) _ rfl (by rfl) (by rfl) zxs (HO.out.alloc _) (by unfold maxLen;omega) zxo (by rw[World.size_alloc];have:=HB.out.size;omega) ?_);intro g2 cap2 w2 ho2 hg2 hat2 hlt2)
         have HP:=zxi (And.intro ho2 (Qo (c:=1) (ci:=1) (by rfl) HO.out HRA.out HX.out HB.out hg2 HR.out))
         clear ho2 hg2 hat2
         go_roundw
         case rel=>exact⟨0+1,gs++[(wr.heap.size,1)],_,by omega,by rw[List.length_append,List.length_singleton];omega,by go_num,rfl,HP.out.1,HP.out.2⟩
         case measure=>simp only[intOf];omega
       · obtain⟨i,rfl⟩:=Nat.exists_eq_succ_of_ne_zero j0
         obtain⟨p,hp⟩:∃ p,l[i]?=some p:=⟨_,List.getElem?_eq_getElem zxo⟩
         have bj:(((i+1:Nat):Int) == 0)=false:=beq_eq_false_iff_ne.2 zxo
         have hi1:((i+1:Nat):Int)-1=(i:Nat):=by omega
         obtain⟨_,_,rp,hA,_,hmp,d0,-,-,-,-,-⟩:=(HK.out.after zxn HB.out).at hp
         cases hA
         have hkp:=hmp.kind
         have hfl:qeV true (l.take (i+1))=decide (p.kind=2):=qoV hp
         clear hmp hp
         by_cases hp2:p.kind=2
         · rw[hkp,hp2] at d0
           have HR:=zxi (show qP 1 H (l.take (i+1+1))=qP 1 H (l.take (i+1))++[[1]] from by rw[Jv HXX.out,hx2,hfl,hp2];rfl)
           go_wp2_with (at_builtin;go_must (refine qr (cs:=JT) rfl _ _ 53 rfl 56 i56 _ 24 Tryz.underlying53 hi56 hz0 hz1 hz2 rfl zxd qR jF (wr.alloc (.cells #[.int .i64 1] 3)) w.heap.size (wr.heap.size+1) v gs (wr.heap.size,1) _ rfl (by rfl) (by rfl) zxs (HO.out.alloc _) (by unfold maxLen;omega) zxo (by rw[World.size_alloc];have:=HB.out.size;omega) ?_);intro g2 cap2 w2 ho2 hg2 hat2 hlt2)
           have HP:=zxi (And.intro ho2 (Qo (c:=1) (ci:=1) (by rfl) HO.out HRA.out HX.out HB.out hg2 HR.out))
           exact qqC
         · have bp:(rp.kind == 2)=false:=beq_eq_false_iff_ne.2 (by rw[hkp];exact hp2)
           clear hkp
           have HR:=zxi (show qP 1 H (l.take (i+1+1))=qP 1 H (l.take (i+1))++[[2]] from by rw[Jv HXX.out,hx2,hfl];simp[hp2])
           go_wp2_with (at_builtin;go_must (refine qr (cs:=JT) rfl _ _ 53 rfl 56 i56 _ 24 Tryz.underlying53 hi56 hz0 hz1 hz2 rfl zxd qR jF (wr.alloc (.cells #[.int .i64 2] 3)) w.heap.size (wr.heap.size+1) v gs (wr.heap.size,1) _ rfl (by rfl) (by rfl) zxs (HO.out.alloc _) (by unfold maxLen;omega) zxo (by rw[World.size_alloc];have:=HB.out.size;omega) ?_);intro g2 cap2 w2 ho2 hg2 hat2 hlt2)
           have HP:=zxi (And.intro ho2 (Qo (c:=2) (ci:=2) (by rfl) HO.out HRA.out HX.out HB.out hg2 HR.out))
           exact qqC
     · have bx:(rx.kind == 2)=false:=beq_eq_false_iff_ne.2 (by rw[HKX.out];exact hx2)
       have HR:=zxi (show qP 1 H (l.take (j+1))=qP 1 H (l.take j)++[[2]] from by rw[Jv HXX.out];simp[hx2])
       go_wp2_with (at_builtin;go_must (refine qr (cs:=JT) rfl _ _ 53 rfl 56 i56 _ 24 Tryz.underlying53 hi56 hz0 hz1 hz2 rfl zxd qR jF (wr.alloc (.cells #[.int .i64 2] 3)) w.heap.size (wr.heap.size+1) v gs (wr.heap.size,1) _ rfl (by rfl) (by rfl) zxs (HO.out.alloc _) (by unfold maxLen;omega) zxo (by rw[World.size_alloc];have:=HB.out.size;omega) ?_);intro g2 cap2 w2 ho2 hg2 hat2 hlt2)
       have HP:=zxi (And.intro ho2 (Qo (c:=2) (ci:=2) (by rfl) HO.out HRA.out HX.out HB.out hg2 HR.out))
       exact ql4
   · have HRW:=zxi (show l.take j=l from List.take_of_length_le zxo)
     rw[HRW.out] at HRA
     clear HRW
     obtain⟨A',c',rfl,hrow⟩:=HO.out.row qR
     have HRW:=zxi hrow
     clear hrow
     go_wp2_with fail
     have HKP:=zxi (fun W' (hBW:Below wr.heap.size wr W')=>(show(zS wr w.heap.size ⟨1,f,en,a,qn n,A,l.length,cap⟩) W' from by exact qh HX.out hBW))
     exact qpH
  )
theorem ql5 (k f en a:Int) (n:BL) (l:List Tree) (A:Option Addr) (cap need:Nat) (head H:Bool) (hH:H=head) (w:World) (hk:¬ qcf k) (k1:k≠1) (k3:k≠3) (k6:k≠6) (k10:k≠10) (k32:k≠32) (k27:k≠27) (k28:k≠28) (hkid:KidsM w w.heap.size A l) (hl:l.length≤3000) :
  Calls Tryz.prog 45 #[(⟨k,f,en,a,qn n,A,l.length,cap⟩:RN).val,.int .i64 need,.bool head] w (jd (qP k H l,(decide ((k:Int)≠27)&&decide ((k:Int)≠28)) || !l.isEmpty) w):=by
 obtain⟨i56,hi56,hz0,hz1,hz2⟩:=jg qaL
 have HK:=zxi hkid
 have HH:=zxi hH
 unfold qcf at hk
 simp only[not_or] at hk
 obtain⟨h4,h7,h5,h9,h11,h12,h13,h14,h15,h16,h19,h20,h26,h30,h31,h29,h33⟩:=hk
 have b4:(k == 4)=false:=beq_eq_false_iff_ne.2 h4
 have b7:(k == 7)=false:=beq_eq_false_iff_ne.2 h7
 have b5:(k == 5)=false:=beq_eq_false_iff_ne.2 h5
 have b9:(k == 9)=false:=beq_eq_false_iff_ne.2 h9
 have b11:(k == 11)=false:=beq_eq_false_iff_ne.2 h11
 have b12:(k == 12)=false:=beq_eq_false_iff_ne.2 h12
 have b13:(k == 13)=false:=beq_eq_false_iff_ne.2 h13
 have b14:(k == 14)=false:=beq_eq_false_iff_ne.2 h14
 have b15:(k == 15)=false:=beq_eq_false_iff_ne.2 h15
 have b16:(k == 16)=false:=beq_eq_false_iff_ne.2 h16
 have b19:(k == 19)=false:=beq_eq_false_iff_ne.2 h19
 have b20:(k == 20)=false:=beq_eq_false_iff_ne.2 h20
 have b26:(k == 26)=false:=beq_eq_false_iff_ne.2 h26
 have b30:(k == 30)=false:=beq_eq_false_iff_ne.2 h30
 have b31:(k == 31)=false:=beq_eq_false_iff_ne.2 h31
 have b29:(k == 29)=false:=beq_eq_false_iff_ne.2 h29
 have b33:(k == 33)=false:=beq_eq_false_iff_ne.2 h33
 have bb1:(k == 1)=false:=beq_eq_false_iff_ne.2 k1
 have bb3:(k == 3)=false:=beq_eq_false_iff_ne.2 k3
 have bb6:(k == 6)=false:=beq_eq_false_iff_ne.2 k6
 have bb10:(k == 10)=false:=beq_eq_false_iff_ne.2 k10
 have bb32:(k == 32)=false:=beq_eq_false_iff_ne.2 k32
 have bb27:(k == 27)=false:=beq_eq_false_iff_ne.2 k27
 have bb28:(k == 28)=false:=beq_eq_false_iff_ne.2 k28
 have d27:(k != 27)=true:=by simp only[bne,bb27];rfl
 have d28:(k != 28)=true:=by simp only[bne,bb28];rfl
 have HRN:=zxi (fun l':List Tree=>qgV (head:=H) (l:=l') k1 zxo)
 rw[show((decide (k≠27)&&decide (k≠28)) || !l.isEmpty)=true by simp[k27,k28]]
 clear h4 h7 h5 h9 h11 h12 h13 h14 h15 h16 h19 h20 h26 h30 h31 h29 h33 k1 k3 k6 k10 k32 k27 k28
 clear hkid hH
 unfold RN.val
 cases head
 all_goals (
  go_enter Tryz.func45,Tryz.ntmps45
  go_wp2_with fail
  go_loopw [10,11] (fun v i wr=>∃ (j:Nat) (gs:List (Nat×Nat)) (u:Value),j≤l.length∧gs.length≤j∧i = .int .i64 j∧u=v∧Own JT 1 56 wr w.heap.size u gs∧RowsAt wr gs (qP k H (l.take j))∧wr.heap[w.heap.size]?=some (qd ⟨k,f,en,a,qn n,A,l.length,cap⟩)∧Below w.heap.size w wr) (fun _ i _=>l.length-(intOf i).toNat)
  case atStart=>exact⟨0,[],_,Nat.zero_le _,Nat.le_refl _,rfl,rfl,Own.nil_,by rw[HRN.out];trivial,heap_alloc_new _ _,zA (zR _)⟩
  case round =>
   obtain⟨j,gs,v,hj,hgs,rfl,rfl,hown,hra,hbx,hb⟩:=hrel
   have HO:=zxi hown
   have HRA:=zxi hra
   have HX:=zxi hbx
   have HB:=zxi hb
   obtain⟨e0,e1,e2,e3,e4,e5,ez,el⟩:=qD hbx
   clear hown hra hbx hb
   by_cases hlt:j<l.length
   · obtain⟨x,hx⟩:∃ x,l[j]?=some x:=⟨_,List.getElem?_eq_getElem hlt⟩
     have HXX:=zxi hx
     clear hx HXX
     go_wp2_with fail
     go_roundw
     case rel=>exact⟨j+1,gs,_,by omega,by omega,by go_num,rfl,HO.out,by rw[HRN.out];rw[HRN.out] at HRA;exact HRA.out,HX.out,HB.out⟩
     case measure=>simp only[intOf];omega
   · have HRW:=zxi (show l.take j=l from List.take_of_length_le zxo)
     rw[HRW.out] at HRA
     clear HRW
     obtain⟨A',c',rfl,hrow⟩:=HO.out.row qR
     have HRW:=zxi hrow
     clear hrow
     go_wp2_with fail
     have HKP:=zxi (fun W' (hBW:Below wr.heap.size wr W')=>(show(zS wr w.heap.size ⟨k,f,en,a,qn n,A,l.length,cap⟩) W' from by exact qh HX.out hBW))
     exact qpH
  )
theorem qwD (t:Tree) (r:RN) (need:Nat) (head:Bool) (w:World) (hm:NodeM w w.heap.size t r) (hc:qY t≤3000) (hl:t.kind=31→0<jV t.name):Calls Tryz.prog 45 #[r.val,.int .i64 need,.bool head] w (jd (qX t need head) w):=by
 obtain⟨k,f,en,a,n,l⟩:=t
 obtain⟨A,cap,rfl,hk⟩:=hm.open2
 have hlen:=jP hc
 by_cases h4:k=4
 · subst h4;exact qxc f en a n l A cap need head w
 by_cases h7:k=7
 · subst h7;exact qxC f en a n l A cap need head w
 by_cases h5:k=5
 · subst h5;exact qxg f en a n l A cap need head w
 by_cases h9:k=9
 · subst h9;exact qxA f en a n l A cap need head w
 by_cases h12:k=12
 · subst h12;exact qu9 f en a n l A cap need head w
 by_cases h13:k=13
 · subst h13;exact qv9 f en a n l A cap need head w
 by_cases h14:k=14
 · subst h14;exact qvg f en a n l A cap need head w
 by_cases h15:k=15
 · subst h15;exact qvq f en a n l A cap need head w
 by_cases h16:k=16
 · subst h16;exact qvH f en a n l A cap need head w
 by_cases h19:k=19
 · subst h19;exact qu0 f en a n l A cap need head w
 by_cases h20:k=20
 · subst h20;exact qwg f en a n l A cap need head w
 by_cases h26:k=26
 · subst h26;exact qvZ f en a n l A cap need head w
 by_cases h30:k=30
 · subst h30;exact quK f en a n l A cap need head w
 by_cases h29:k=29
 · subst h29;exact qvo f en a n l A cap need head w
 by_cases h33:k=33
 · subst h33;exact qvt f en a n l A cap need head w
 by_cases h11:k=11
 · subst h11;exact qvU f en a n l A cap need head w hk
 by_cases h31:k=31
 · subst h31;exact qvS f en a n l A cap need head w (hl rfl)
 have hcon:¬ qcf k:=by unfold qcf;omega
 rw[qhQ hcon]
 by_cases k1:k=1
 · subst k1;exact qkB f en a n l A cap need head head rfl w hk zxo
 by_cases k3:k=3
 · subst k3;exact qkZ f en a n l A cap need head head rfl w hk zxo
 by_cases k6:k=6
 · subst k6;exact qki f en a n l A cap need head head rfl w hk zxo
 by_cases k10:k=10
 · subst k10;exact qhY f en a n l A cap need head head rfl w hk zxo
 by_cases k32:k=32
 · subst k32;exact qh5 f en a n l A cap need head head rfl w hk zxo
 by_cases k27:k=27
 · subst k27;exact qhO f en a n l A cap need head head rfl w hk zxo
 by_cases k28:k=28
 · subst k28;exact qja f en a n l A cap need head head rfl w hk zxo
 exact ql5 k f en a n l A cap need head head rfl w hcon k1 k3 k6 k10 k32 k27 k28 hk zxo
end Go.Proofs.YtacdfjlncfidgaaGreatDoor
