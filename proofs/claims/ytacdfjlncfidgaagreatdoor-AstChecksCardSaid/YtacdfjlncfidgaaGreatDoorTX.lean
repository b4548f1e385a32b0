/- A part of what the claim leans on. -/
import Derived.Test.YtacdfjlncfidgaaGreatDoorQS
import Derived.Test.YtacdfjlncfidgaaGreatDoorTE
import Derived.Test.YtacdfjlncfidgaaGreatDoorTF
import Derived.Test.YtacdfjlncfidgaaGreatDoorRA
import Derived.Test.YtacdfjlncfidgaaGreatDoorRJ
namespace Go.Proofs.YtacdfjlncfidgaaGreatDoor
open Go.RowKit
set_option linter.unusedVariables false
set_option linter.unusedSimpArgs false
set_option maxRecDepth 100000
set_option maxHeartbeats 6400000
theorem rIn (l:List BL) (b off c:Nat) (s:ByteArray) (w:World) (hl:l.length≤1000) (h:∀ j x,l[j]?=some x→w.cell? ⟨b,off+j,none⟩=some (.string (qn x))) :
  Calls Tryz.prog 76 #[.string s,.slice (some ⟨b,off,none⟩) l.length c] w fun e w'=>e = .returned (.bool (jp l s.data.toList))∧∃ q,w'=w.drewN q:=by
 have HH:=zxi h
 clear h
 go_enter Tryz.func76,Tryz.ntmps76
 exact qwz
theorem jq (l:List BL) (w:World) (b:Nat) (h:w.heap[b]?=some (.cells (l.map fun l=>Value.string ⟨l.toArray⟩).toArray 9 (0,0))):∀ j x,l[j]?=some x→w.cell? ⟨b,0+j,none⟩=some (.string (qn x)):=fun j x hx=>by
 rw[cell_of_row _ _ _ _ _ _ h,Nat.zero_add,List.getElem?_toArray,List.getElem?_map,hx];rfl
def jD (w:World):World:=((((((w.alloc (.cells (([[124,124]]:List BL).map fun l=>Value.string ⟨l.toArray⟩).toArray 9)).alloc (.cells (([[38,38]]:List BL).map fun l=>Value.string ⟨l.toArray⟩).toArray 9)).alloc (.cells (([[61,61],[33,61],[60],[60,61],[62],[62,61]]:List BL).map fun l=>Value.string ⟨l.toArray⟩).toArray 9)).alloc (.cells (([[43],[45]]:List BL).map fun l=>Value.string ⟨l.toArray⟩).toArray 9)).alloc (.cells (([[42],[47],[37]]:List BL).map fun l=>Value.string ⟨l.toArray⟩).toArray 9)).alloc (.cells #[.slice (some ⟨w.heap.size,0,none⟩) 1 1,.slice (some ⟨w.heap.size+1,0,none⟩) 1 1,.slice (some ⟨w.heap.size+1+1,0,none⟩) 6 6,.slice (some ⟨w.heap.size+1+1+1,0,none⟩) 2 2,.slice (some ⟨w.heap.size+1+1+1+1,0,none⟩) 3 3] 71))
theorem qpb (w:World):∀ j W,levW[j]?=some W→(jD w).heap[w.heap.size+j]?=some (.cells (W.map fun l=>Value.string ⟨l.toArray⟩).toArray 9 (0,0)):=by
 intro j W hW
 match j with
 | 0 =>
  cases hW
  have h:=heap_alloc_new w (.cells (([[124,124]]:List BL).map fun l=>Value.string ⟨l.toArray⟩).toArray 9)
  exact qb (qb (qb (qb (qb (h)))))
 | 1 =>
  cases hW
  have h:=heap_alloc_new (w.alloc (.cells (([[124,124]]:List BL).map fun l=>Value.string ⟨l.toArray⟩).toArray 9)) (.cells (([[38,38]]:List BL).map fun l=>Value.string ⟨l.toArray⟩).toArray 9)
  simp only[World.size_alloc,Nat.add_assoc,Nat.reduceAdd] at h
  exact qb (qb (qb (qb (h))))
 | 2 =>
  cases hW
  have h:=heap_alloc_new ((w.alloc (.cells (([[124,124]]:List BL).map fun l=>Value.string ⟨l.toArray⟩).toArray 9)).alloc (.cells (([[38,38]]:List BL).map fun l=>Value.string ⟨l.toArray⟩).toArray 9)) (.cells (([[61,61],[33,61],[60],[60,61],[62],[62,61]]:List BL).map fun l=>Value.string ⟨l.toArray⟩).toArray 9)
  simp only[World.size_alloc,Nat.add_assoc,Nat.reduceAdd] at h
  exact qb (qb (qb (h)))
 | 3 =>
  cases hW
  have h:=heap_alloc_new (((w.alloc (.cells (([[124,124]]:List BL).map fun l=>Value.string ⟨l.toArray⟩).toArray 9)).alloc (.cells (([[38,38]]:List BL).map fun l=>Value.string ⟨l.toArray⟩).toArray 9)).alloc (.cells (([[61,61],[33,61],[60],[60,61],[62],[62,61]]:List BL).map fun l=>Value.string ⟨l.toArray⟩).toArray 9)) (.cells (([[43],[45]]:List BL).map fun l=>Value.string ⟨l.toArray⟩).toArray 9)
  simp only[World.size_alloc,Nat.add_assoc,Nat.reduceAdd] at h
  exact qb (qb (h))
 | 4 =>
  cases hW
  have h:=heap_alloc_new ((((w.alloc (.cells (([[124,124]]:List BL).map fun l=>Value.string ⟨l.toArray⟩).toArray 9)).alloc (.cells (([[38,38]]:List BL).map fun l=>Value.string ⟨l.toArray⟩).toArray 9)).alloc (.cells (([[61,61],[33,61],[60],[60,61],[62],[62,61]]:List BL).map fun l=>Value.string ⟨l.toArray⟩).toArray 9)).alloc (.cells (([[43],[45]]:List BL).map fun l=>Value.string ⟨l.toArray⟩).toArray 9)) (.cells (([[42],[47],[37]]:List BL).map fun l=>Value.string ⟨l.toArray⟩).toArray 9)
  simp only[World.size_alloc,Nat.add_assoc,Nat.reduceAdd] at h
  exact qb (h)
 | j+5=>simp[levW] at hW
theorem qpk (w:World):(jD w).heap[w.heap.size+1+1+1+1+1]?=some (.cells #[.slice (some ⟨w.heap.size,0,none⟩) 1 1,.slice (some ⟨w.heap.size+1,0,none⟩) 1 1,.slice (some ⟨w.heap.size+1+1,0,none⟩) 6 6,.slice (some ⟨w.heap.size+1+1+1,0,none⟩) 2 2,.slice (some ⟨w.heap.size+1+1+1+1,0,none⟩) 3 3] 71 (0,0)):=by
 have h:=heap_alloc_new (((((w.alloc (.cells (([[124,124]]:List BL).map fun l=>Value.string ⟨l.toArray⟩).toArray 9)).alloc (.cells (([[38,38]]:List BL).map fun l=>Value.string ⟨l.toArray⟩).toArray 9)).alloc (.cells (([[61,61],[33,61],[60],[60,61],[62],[62,61]]:List BL).map fun l=>Value.string ⟨l.toArray⟩).toArray 9)).alloc (.cells (([[43],[45]]:List BL).map fun l=>Value.string ⟨l.toArray⟩).toArray 9)).alloc (.cells (([[42],[47],[37]]:List BL).map fun l=>Value.string ⟨l.toArray⟩).toArray 9)) (.cells #[.slice (some ⟨w.heap.size,0,none⟩) 1 1,.slice (some ⟨w.heap.size+1,0,none⟩) 1 1,.slice (some ⟨w.heap.size+1+1,0,none⟩) 6 6,.slice (some ⟨w.heap.size+1+1+1,0,none⟩) 2 2,.slice (some ⟨w.heap.size+1+1+1+1,0,none⟩) 3 3] 71)
 simp only[World.size_alloc] at h
 exact h
theorem qis (w:World):Below w.heap.size w (jD w):=by
 unfold jD
 exact(((((((Below.refl _ _).alloc zxn _).alloc zxs _).alloc (by simp;omega) _).alloc (by simp;omega) _).alloc (by simp;omega) _).alloc (by simp;omega) _)
theorem qiJ (s:ByteArray) (w:World):Calls Tryz.prog 62 #[.string s] w fun e w'=>e = .returned (.int .i64 (jV s.data.toList))∧Below w.heap.size w w':=by
 have HROW:=zxi (qpk w)
 have HBL:=zxi (qpb w)
 have HBW:=zxi (qis w)
 go_enter Tryz.func62,Tryz.ntmps62
 go_wp2_with fail
 go_loopw [4] (fun i wr=>∃ j:Nat,j≤5∧i = .int .i64 j∧(∀ i V,i<j→levW[i]?=some V→jp V s.data.toList=false)∧∃ q,wr=(jD w).drewN q) (fun i _=>5-(intOf i).toNat)
 case atStart=>exact⟨0,Nat.zero_le _,rfl,fun i V h=>by omega,0,rfl⟩
 case round =>
  obtain⟨j,hj,rfl,hno,q,rfl⟩:=hrel
  have HNO:=zxi hno
  clear hno
  have r0:((jD w).drewN q).cell? ⟨w.heap.size+1+1+1+1+1,0,none⟩=some (.slice (some ⟨w.heap.size,0,none⟩) 1 1):=by
   exact qiH
  have r1:((jD w).drewN q).cell? ⟨w.heap.size+1+1+1+1+1,1,none⟩=some (.slice (some ⟨w.heap.size+1,0,none⟩) 1 1):=by
   exact qiH
  have r2:((jD w).drewN q).cell? ⟨w.heap.size+1+1+1+1+1,2,none⟩=some (.slice (some ⟨w.heap.size+1+1,0,none⟩) 6 6):=by
   exact qiH
  have r3:((jD w).drewN q).cell? ⟨w.heap.size+1+1+1+1+1,3,none⟩=some (.slice (some ⟨w.heap.size+1+1+1,0,none⟩) 2 2):=by
   exact qiH
  have r4:((jD w).drewN q).cell? ⟨w.heap.size+1+1+1+1+1,4,none⟩=some (.slice (some ⟨w.heap.size+1+1+1+1,0,none⟩) 3 3):=by
   exact qiH
  generalize hWW:jD w=WW at *
  rcases (by omega:j=0∨j=1∨j=2∨j=3∨j=4∨j=5) with rfl | rfl | rfl | rfl | rfl | rfl
  · have HC:=zxi (rIn [[124,124]] (w.heap.size) 0 1 s (WW.drewN q) zxd (jq [[124,124]] (WW.drewN q) _ (HBL.out 0 _ rfl)))
    cases hq:jp [[124,124]] s.data.toList with
    | true =>
     rw[hq] at HC
     have HV:=zxi (JH s.data.toList 0 _ rfl hq HNO.out)
     exact qhV
    | false =>
     rw[hq] at HC
     have HN:=zxi (Qd HNO.out rfl hq)
     clear hq
     go_wp2_with (go_at_call 76;refine HC.out.mono ?_;rintro e w2 ⟨rfl,q2,rfl⟩)
     go_roundw
     case rel=>exact⟨1,by omega,by go_num,HN.out,_,rfl⟩
     case measure=>simp[intOf]
  · have HC:=zxi (rIn [[38,38]] (w.heap.size+1) 0 1 s (WW.drewN q) zxd (jq [[38,38]] (WW.drewN q) _ (HBL.out 1 _ rfl)))
    cases hq:jp [[38,38]] s.data.toList with
    | true =>
     rw[hq] at HC
     have HV:=zxi (JH s.data.toList 1 _ rfl hq HNO.out)
     exact qhV
    | false =>
     rw[hq] at HC
     have HN:=zxi (Qd HNO.out rfl hq)
     clear hq
     go_wp2_with (go_at_call 76;refine HC.out.mono ?_;rintro e w2 ⟨rfl,q2,rfl⟩)
     go_roundw
     case rel=>exact⟨2,by omega,by go_num,HN.out,_,rfl⟩
     case measure=>simp[intOf]
  · have HC:=zxi (rIn [[61,61],[33,61],[60],[60,61],[62],[62,61]] (w.heap.size+1+1) 0 6 s (WW.drewN q) zxd (jq [[61,61],[33,61],[60],[60,61],[62],[62,61]] (WW.drewN q) _ (HBL.out 2 _ rfl)))
    cases hq:jp [[61,61],[33,61],[60],[60,61],[62],[62,61]] s.data.toList with
    | true =>
     rw[hq] at HC
     have HV:=zxi (JH s.data.toList 2 _ rfl hq HNO.out)
     exact qhV
    | false =>
     rw[hq] at HC
     have HN:=zxi (Qd HNO.out rfl hq)
     clear hq
     go_wp2_with (go_at_call 76;refine HC.out.mono ?_;rintro e w2 ⟨rfl,q2,rfl⟩)
     go_roundw
     case rel=>exact⟨3,by omega,by go_num,HN.out,_,rfl⟩
     case measure=>simp[intOf]
  · have HC:=zxi (rIn [[43],[45]] (w.heap.size+1+1+1) 0 2 s (WW.drewN q) zxd (jq [[43],[45]] (WW.drewN q) _ (HBL.out 3 _ rfl)))
    cases hq:jp [[43],[45]] s.data.toList with
    | true =>
     rw[hq] at HC
     have HV:=zxi (JH s.data.toList 3 _ rfl hq HNO.out)
     exact qhV
    | false =>
     rw[hq] at HC
     have HN:=zxi (Qd HNO.out rfl hq)
     clear hq
     go_wp2_with (go_at_call 76;refine HC.out.mono ?_;rintro e w2 ⟨rfl,q2,rfl⟩)
     go_roundw
     case rel=>exact⟨4,by omega,by go_num,HN.out,_,rfl⟩
     case measure=>simp[intOf]
  · have HC:=zxi (rIn [[42],[47],[37]] (w.heap.size+1+1+1+1) 0 3 s (WW.drewN q) zxd (jq [[42],[47],[37]] (WW.drewN q) _ (HBL.out 4 _ rfl)))
    cases hq:jp [[42],[47],[37]] s.data.toList with
    | true =>
     rw[hq] at HC
     have HV:=zxi (JH s.data.toList 4 _ rfl hq HNO.out)
     exact qhV
    | false =>
     rw[hq] at HC
     have HN:=zxi (Qd HNO.out rfl hq)
     clear hq
     go_wp2_with (go_at_call 76;refine HC.out.mono ?_;rintro e w2 ⟨rfl,q2,rfl⟩)
     go_roundw
     case rel=>exact⟨5,by omega,by go_num,HN.out,_,rfl⟩
     case measure=>simp[intOf]
  · have HV:=zxi (qfO s.data.toList HNO.out)
    go_wp2_with fail
    go_ret
    exact⟨by rw[HV.out];rfl,qQ HBW.out _⟩
theorem qiD {n:Nat} (h:20<n):qL n=qc1:=by
 unfold qL
 split
 · rfl
 · split<;>first | rfl | omega
theorem qur (d:Int) (h0:0≤d) (w:World):Calls Tryz.prog 63 #[.int .i64 d] w fun e w' =>
  e = .returned (.slice (some ⟨w.heap.size,0,none⟩) (qL d.toNat).length (qL d.toNat).length)∧w'.heap[w.heap.size]?=some (.cells ((qL d.toNat).map (Value.int .i64)).toArray 3 (0,0))∧Below w.heap.size w w':=by
 by_cases h:d≤20
 · rcases (by omega:d=0∨d=1∨d=2∨d=3∨d=4∨d=5∨d=6∨d=7∨d=8∨d=9∨d=10∨d=11∨d=12∨d=13∨d=14∨d=15∨d=16∨d=17∨d=18∨d=19∨d=20) with rfl | rfl | rfl | rfl | rfl | rfl | rfl | rfl | rfl | rfl | rfl | rfl | rfl | rfl | rfl | rfl | rfl | rfl | rfl | rfl | rfl
   all_goals (
    go_enter Tryz.func63,Tryz.ntmps63
    go_wp2_with fail
    go_ret
    exact⟨rfl,heap_alloc_new _ _,(Below.refl _ _).alloc zxn _⟩)
 · have HE:=zxi (qiD (n:=d.toNat) zxo)
   have b0:(d == 0)=false:=beq_eq_false_iff_ne.2 zxo
   have b1:(d == 1)=false:=beq_eq_false_iff_ne.2 zxo
   have b2:(d == 2)=false:=beq_eq_false_iff_ne.2 zxo
   have b3:(d == 3)=false:=beq_eq_false_iff_ne.2 zxo
   have b4:(d == 4)=false:=beq_eq_false_iff_ne.2 zxo
   have b5:(d == 5)=false:=beq_eq_false_iff_ne.2 zxo
   have b6:(d == 6)=false:=beq_eq_false_iff_ne.2 zxo
   have b7:(d == 7)=false:=beq_eq_false_iff_ne.2 zxo
   have b8:(d == 8)=false:=beq_eq_false_iff_ne.2 zxo
   have b9:(d == 9)=false:=beq_eq_false_iff_ne.2 zxo
   have b10:(d == 10)=false:=beq_eq_false_iff_ne.2 zxo
   have b11:(d == 11)=false:=beq_eq_false_iff_ne.2 zxo
   have b12:(d == 12)=false:=beq_eq_false_iff_ne.2 zxo
   have b13:(d == 13)=false:=beq_eq_false_iff_ne.2 zxo
   have b14:(d == 14)=false:=beq_eq_false_iff_ne.2 zxo
   have b15:(d == 15)=false:=beq_eq_false_iff_ne.2 zxo
   have b16:(d == 16)=false:=beq_eq_false_iff_ne.2 zxo
   have b17:(d == 17)=false:=beq_eq_false_iff_ne.2 zxo
   have b18:(d == 18)=false:=beq_eq_false_iff_ne.2 zxo
   have b19:(d == 19)=false:=beq_eq_false_iff_ne.2 zxo
   have b20:(d == 20)=false:=beq_eq_false_iff_ne.2 zxo
   clear h0 h
   go_enter Tryz.func63,Tryz.ntmps63
   go_wp2_with fail
   go_ret
   rw[HE.out]
   exact⟨rfl,heap_alloc_new _ _,(Below.refl _ _).alloc zxn _⟩
def qoR:Prop:=∀ (s:ByteArray) (k:Int) (w:World),Calls Tryz.prog 77 #[.string s,.int .i64 k] w fun e w'=>e = .returned (.bool (qw s.data.toList k))∧Below w.heap.size w w'
theorem quH (k f en a:Int) (n:BL) (l:List Tree) (A:Option Addr) (cap need:Nat) (w:World) (hn:n.length≤3000) (h:k=1∨k=2∨k=3∨k=4∨k=5∨k=7∨k=9∨k=11∨k=12∨k=16∨k=25∨k=26∨k=29):Calls Tryz.prog 64 #[(⟨k,f,en,a,qn n,A,l.length,cap⟩:RN).val,.int .i64 need] w fun e w'=>e = .returned (.bool (qK qc qw (.mk k f en a n l) need))∧Below w.heap.size w w':=by
 have HN:=zxi (fun W=>qfZ (qn n) W (by rw[Jd];omega))
 rw[qj] at HN
 have HB:=zxi ((Below.refl w.heap.size w).alloc zxn (qd ⟨k,f,en,a,qn n,A,l.length,cap⟩))
 unfold RN.val
 have hv:qK qc qw (.mk k f en a n l) need=qc n:=by unfold qK;exact if_pos h
 rw[hv];clear hv
 rcases h with rfl | rfl | rfl | rfl | rfl | rfl | rfl | rfl | rfl | rfl | rfl | rfl | rfl
 all_goals (
  go_enter Tryz.func64,Tryz.ntmps64
  go_wp2_with (go_at_call 44;refine(HN.out _).mono ?_;rintro e w2 ⟨rfl,hb2⟩)
  go_ret
  exact⟨rfl,qa HB.out hb2⟩)
theorem quG (f en a:Int) (n:BL) (l:List Tree) (A:Option Addr) (cap need:Nat) (w:World) (hn:n.length≤3000):Calls Tryz.prog 64 #[(⟨8,f,en,a,qn n,A,l.length,cap⟩:RN).val,.int .i64 need] w fun e w'=>e = .returned (.bool (qK qc qw (.mk 8 f en a n l) need))∧Below w.heap.size w w':=by
 have HN:=zxi (fun W=>qfZ (qn n) W (by rw[Jd];omega))
 rw[qj] at HN
 have HI:=zxi (fun l b off c W=>rIn l b off c (qn n) W)
 rw[qj] at HI
 have HB:=zxi ((Below.refl w.heap.size w).alloc zxn (qd ⟨8,f,en,a,qn n,A,l.length,cap⟩))
 unfold RN.val
 have hv:qK qc qw (.mk 8 f en a n l) need=(qc n||(decide (need=8)&&basicW.contains n)):=by rfl
 rw[hv];clear hv
 cases hq:qc n with
 | true =>
  rw[hq] at HN
  go_enter Tryz.func64,Tryz.ntmps64
  go_wp2_with (go_at_call 44;refine(HN.out _).mono ?_;rintro e w2 ⟨rfl,hb2⟩)
  go_ret
  exact⟨qi zxs,qa HB.out hb2⟩
 | false =>
  rw[hq] at HN
  by_cases h8:need=8
  · have bn:((need:Int) == 8)=true:=beq_iff_eq.2 zxo
    have HV:=zxi (show(false||(decide (need=8)&&basicW.contains n))=jp basicW n by simp[h8,jp])
    clear hq h8
    go_enter Tryz.func64,Tryz.ntmps64
    go_wp2_with (first | (go_at_call 44;refine(HN.out _).mono ?_;rintro e w2 ⟨rfl,hb2⟩;obtain⟨e0,e1,e2,e3,e4,e5,ez,el⟩:=qD (qg (heap_alloc_new w (qd ⟨8,f,en,a,qn n,A,l.length,cap⟩)) hb2)) | (go_at_call 76;refine(HI.out basicW _ 0 4 _ zxd (jq basicW _ _ (heap_alloc_new _ _))).mono ?_;rintro e w3 ⟨rfl,q,rfl⟩))
    go_ret
    exact⟨qi HV.out.symm,qQ (zA (qa HB.out hb2)) _⟩
  · have bn:((need:Int) == 8)=false:=beq_eq_false_iff_ne.2 zxo
    have HV:=zxi (show(false||(decide (need=8)&&basicW.contains n))=false by simp[h8])
    clear hq h8
    go_enter Tryz.func64,Tryz.ntmps64
    go_wp2_with (go_at_call 44;refine(HN.out _).mono ?_;rintro e w2 ⟨rfl,hb2⟩)
    go_ret
    exact⟨qi HV.out.symm,qa HB.out hb2⟩
theorem qsm (k f en a:Int) (n:BL) (l:List Tree) (A:Option Addr) (cap need:Nat) (w:World) (hn:n.length≤3000) (h:k=17∨k=18):Calls Tryz.prog 64 #[(⟨k,f,en,a,qn n,A,l.length,cap⟩:RN).val,.int .i64 need] w fun e w'=>e = .returned (.bool (qK qc qw (.mk k f en a n l) need))∧Below w.heap.size w w':=by
 have HN:=zxi (fun W=>qfZ (qn n) W (by rw[Jd];omega))
 rw[qj] at HN
 have HE:=zxi (jr n)
 have HB:=zxi ((Below.refl w.heap.size w).alloc zxn (qd ⟨k,f,en,a,qn n,A,l.length,cap⟩))
 unfold RN.val
 have hv:qK qc qw (.mk k f en a n l) need=(n.isEmpty||qc n):=by rcases h with rfl | rfl<;>rfl
 rw[hv];clear hv
 cases hq:n.isEmpty with
 | true =>
  have e0:(qn n).toList=[]:=by rw[HE.out];exact List.isEmpty_iff.1 hq
  have e1:((qn n).toList == [])=true:=by rw[e0];rfl
  clear hq
  rcases h with rfl | rfl
  all_goals (
   go_enter Tryz.func64,Tryz.ntmps64
   go_wp2_with (fail)
   go_ret
   exact⟨rfl,HB.out⟩)
 | false =>
  have e1:((qn n).toList == [])=false:=by rw[HE.out];cases n with | nil=>cases hq | cons=>rfl
  have e0:¬ (qn n).toList=[]:=by simpa using e1
  rcases h with rfl | rfl
  all_goals (
   go_enter Tryz.func64,Tryz.ntmps64
   go_wp2_with (go_at_call 44;refine(HN.out _).mono ?_;rintro e w2 ⟨rfl,hb2⟩)
   go_ret
   exact⟨qi zxs,qa HB.out hb2⟩)
theorem qsF (f en a:Int) (n:BL) (l:List Tree) (A:Option Addr) (cap need:Nat) (w:World) (hn:n.length≤3000) (HT:qoR):Calls Tryz.prog 64 #[(⟨21,f,en,a,qn n,A,l.length,cap⟩:RN).val,.int .i64 need] w fun e w'=>e = .returned (.bool (qK qc qw (.mk 21 f en a n l) need))∧Below w.heap.size w w':=by
 have HO:=zxi (fun W k=>HT (qn n) k W)
 rw[qj] at HO
 have HB:=zxi ((Below.refl w.heap.size w).alloc zxn (qd ⟨21,f,en,a,qn n,A,l.length,cap⟩))
 unfold RN.val
 have hv:qK qc qw (.mk 21 f en a n l) need=qw n 3:=by rfl
 rw[hv];clear hv
 go_enter Tryz.func64,Tryz.ntmps64
 go_wp2_with (go_at_call 77;refine(HO.out _ 3).mono ?_;rintro e w2 ⟨rfl,hb2⟩)
 exact qg8
theorem qtq (f en a:Int) (n:BL) (l:List Tree) (A:Option Addr) (cap need:Nat) (w:World) (hn:n.length≤3000) (HT:qoR):Calls Tryz.prog 64 #[(⟨22,f,en,a,qn n,A,l.length,cap⟩:RN).val,.int .i64 need] w fun e w'=>e = .returned (.bool (qK qc qw (.mk 22 f en a n l) need))∧Below w.heap.size w w':=by
 have HO:=zxi (fun W k=>HT (qn n) k W)
 rw[qj] at HO
 have HB:=zxi ((Below.refl w.heap.size w).alloc zxn (qd ⟨22,f,en,a,qn n,A,l.length,cap⟩))
 unfold RN.val
 have hv:qK qc qw (.mk 22 f en a n l) need=qw n 4:=by rfl
 rw[hv];clear hv
 go_enter Tryz.func64,Tryz.ntmps64
 go_wp2_with (go_at_call 77;refine(HO.out _ 4).mono ?_;rintro e w2 ⟨rfl,hb2⟩)
 exact qg8
theorem qtH (f en a:Int) (n:BL) (l:List Tree) (A:Option Addr) (cap need:Nat) (w:World) (hn:n.length≤3000) (HT:qoR):Calls Tryz.prog 64 #[(⟨23,f,en,a,qn n,A,l.length,cap⟩:RN).val,.int .i64 need] w fun e w'=>e = .returned (.bool (qK qc qw (.mk 23 f en a n l) need))∧Below w.heap.size w w':=by
 have HO:=zxi (fun W k=>HT (qn n) k W)
 rw[qj] at HO
 have HB:=zxi ((Below.refl w.heap.size w).alloc zxn (qd ⟨23,f,en,a,qn n,A,l.length,cap⟩))
 unfold RN.val
 have hv:qK qc qw (.mk 23 f en a n l) need=qw n 5:=by rfl
 rw[hv];clear hv
 go_enter Tryz.func64,Tryz.ntmps64
 go_wp2_with (go_at_call 77;refine(HO.out _ 5).mono ?_;rintro e w2 ⟨rfl,hb2⟩)
 exact qg8
theorem qt9 (f en a:Int) (n:BL) (l:List Tree) (A:Option Addr) (cap need:Nat) (w:World) (hn:n.length≤3000):Calls Tryz.prog 64 #[(⟨24,f,en,a,qn n,A,l.length,cap⟩:RN).val,.int .i64 need] w fun e w'=>e = .returned (.bool (qK qc qw (.mk 24 f en a n l) need))∧Below w.heap.size w w':=by
 have HE:=zxi (jr n)
 have HB:=zxi ((Below.refl w.heap.size w).alloc zxn (qd ⟨24,f,en,a,qn n,A,l.length,cap⟩))
 unfold RN.val
 have hv:qK qc qw (.mk 24 f en a n l) need=(decide (n=qa3)||decide (n=Jf)):=by rfl
 rw[hv];clear hv
 by_cases ha:n=qa3
 · have e0:(qn n).toList=[116,114,117,101]:=by rw[HE.out];exact ha
   have e1:((qn n).toList == [116,114,117,101])=true:=by rw[e0];rfl
   have HV:=zxi (show(decide (n=qa3)||decide (n=Jf))=true by simp[ha])
   clear ha
   exact qg2
 · have e0:¬ (qn n).toList=[116,114,117,101]:=by rw[HE.out];exact ha
   have e1:((qn n).toList == [116,114,117,101])=false:=by simpa using e0
   by_cases hb:n=Jf
   · have e2:(qn n).toList=[102,97,108,115,101]:=by rw[HE.out];exact hb
     have e3:((qn n).toList == [102,97,108,115,101])=true:=by rw[e2];rfl
     have HV:=zxi (show(decide (n=qa3)||decide (n=Jf))=true by simp[ha,hb])
     clear ha hb
     exact qg2
   · have e2:¬ (qn n).toList=[102,97,108,115,101]:=by rw[HE.out];exact hb
     have e3:((qn n).toList == [102,97,108,115,101])=false:=by simpa using e2
     have HV:=zxi (show(decide (n=qa3)||decide (n=Jf))=false by simp[ha,hb])
     clear ha hb
     exact qg2
theorem qun (f en a:Int) (n:BL) (l:List Tree) (A:Option Addr) (cap need:Nat) (w:World) (hn:n.length≤3000):Calls Tryz.prog 64 #[(⟨30,f,en,a,qn n,A,l.length,cap⟩:RN).val,.int .i64 need] w fun e w'=>e = .returned (.bool (qK qc qw (.mk 30 f en a n l) need))∧Below w.heap.size w w':=by
 have HE:=zxi (jr n)
 have HB:=zxi ((Below.refl w.heap.size w).alloc zxn (qd ⟨30,f,en,a,qn n,A,l.length,cap⟩))
 unfold RN.val
 have hv:qK qc qw (.mk 30 f en a n l) need=(decide (n=[45])||decide (n=[33])):=by rfl
 rw[hv];clear hv
 by_cases ha:n=[45]
 · have e0:(qn n).toList=[45]:=by rw[HE.out];exact ha
   have e1:((qn n).toList == [45])=true:=by rw[e0];rfl
   have HV:=zxi (show(decide (n=[45])||decide (n=[33]))=true by simp[ha])
   clear ha
   exact qg2
 · have e0:¬ (qn n).toList=[45]:=by rw[HE.out];exact ha
   have e1:((qn n).toList == [45])=false:=by simpa using e0
   by_cases hb:n=[33]
   · have e2:(qn n).toList=[33]:=by rw[HE.out];exact hb
     have e3:((qn n).toList == [33])=true:=by rw[e2];rfl
     have HV:=zxi (show(decide (n=[45])||decide (n=[33]))=true by simp[ha,hb])
     clear ha hb
     exact qg2
   · have e2:¬ (qn n).toList=[33]:=by rw[HE.out];exact hb
     have e3:((qn n).toList == [33])=false:=by simpa using e2
     have HV:=zxi (show(decide (n=[45])||decide (n=[33]))=false by simp[ha,hb])
     clear ha hb
     exact qg2
theorem qqa (f en a:Int) (n:BL) (l:List Tree) (A:Option Addr) (cap need:Nat) (w:World) (hn:n.length≤3000):Calls Tryz.prog 64 #[(⟨31,f,en,a,qn n,A,l.length,cap⟩:RN).val,.int .i64 need] w fun e w'=>e = .returned (.bool (qK qc qw (.mk 31 f en a n l) need))∧Below w.heap.size w w':=by
 have HL:=zxi (fun W=>qiJ (qn n) W)
 rw[qj] at HL
 have HB:=zxi ((Below.refl w.heap.size w).alloc zxn (qd ⟨31,f,en,a,qn n,A,l.length,cap⟩))
 unfold RN.val
 have hv:qK qc qw (.mk 31 f en a n l) need=decide (0<jV n):=by rfl
 rw[hv];clear hv
 go_enter Tryz.func64,Tryz.ntmps64
 go_wp2_with (go_at_call 62;refine(HL.out _).mono ?_;rintro e w2 ⟨rfl,hb2⟩)
 go_ret
 exact⟨qi zxs,qa HB.out hb2⟩
theorem qtJ (f en a:Int) (n:BL) (l:List Tree) (A:Option Addr) (cap need:Nat) (w:World) (hn:n.length≤3000):Calls Tryz.prog 64 #[(⟨32,f,en,a,qn n,A,l.length,cap⟩:RN).val,.int .i64 need] w fun e w'=>e = .returned (.bool (qK qc qw (.mk 32 f en a n l) need))∧Below w.heap.size w w':=by
 have HI:=zxi (fun l b off c W=>rIn l b off c (qn n) W)
 rw[qj] at HI
 have HB:=zxi ((Below.refl w.heap.size w).alloc zxn (qd ⟨32,f,en,a,qn n,A,l.length,cap⟩))
 unfold RN.val
 have hv:qK qc qw (.mk 32 f en a n l) need=jp builtW n:=by rfl
 rw[hv];clear hv
 go_enter Tryz.func64,Tryz.ntmps64
 go_wp2_with (go_at_call 76;refine(HI.out builtW (w.heap.size+1) 0 5 _ zxd (jq builtW _ _ (qG zxs))).mono ?_;rintro e w3 ⟨rfl,q,rfl⟩)
 go_ret
 exact⟨rfl,qQ (zA HB.out) _⟩
theorem quX (k f en a:Int) (n:BL) (l:List Tree) (A:Option Addr) (cap need:Nat) (w:World) (hn:n.length≤3000) (h:¬ (k=1∨k=2∨k=3∨k=4∨k=5∨k=7∨k=9∨k=11∨k=12∨k=16∨k=25∨k=26∨k=29∨k=8∨k=17∨k=18∨k=21∨k=22∨k=23∨k=24∨k=30∨k=31∨k=32)):Calls Tryz.prog 64 #[(⟨k,f,en,a,qn n,A,l.length,cap⟩:RN).val,.int .i64 need] w fun e w'=>e = .returned (.bool (qK qc qw (.mk k f en a n l) need))∧Below w.heap.size w w':=by
 have HE:=zxi (jr n)
 have HB:=zxi ((Below.refl w.heap.size w).alloc zxn (qd ⟨k,f,en,a,qn n,A,l.length,cap⟩))
 unfold RN.val
 have hv:qK qc qw (.mk k f en a n l) need=n.isEmpty:=by unfold qK;(repeat' split)<;>first | rfl | (rename_i hh;exact absurd hh (fun e=>h (by simp only[Tree.kind] at e;omega)))
 rw[hv];clear hv
 have b1:(k == 1)=false:=beq_eq_false_iff_ne.2 zxo
 have b2:(k == 2)=false:=beq_eq_false_iff_ne.2 zxo
 have b3:(k == 3)=false:=beq_eq_false_iff_ne.2 zxo
 have b4:(k == 4)=false:=beq_eq_false_iff_ne.2 zxo
 have b5:(k == 5)=false:=beq_eq_false_iff_ne.2 zxo
 have b7:(k == 7)=false:=beq_eq_false_iff_ne.2 zxo
 have b9:(k == 9)=false:=beq_eq_false_iff_ne.2 zxo
 have b11:(k == 11)=false:=beq_eq_false_iff_ne.2 zxo
 have b12:(k == 12)=false:=beq_eq_false_iff_ne.2 zxo
 have b16:(k == 16)=false:=beq_eq_false_iff_ne.2 zxo
 have b25:(k == 25)=false:=beq_eq_false_iff_ne.2 zxo
 have b26:(k == 26)=false:=beq_eq_false_iff_ne.2 zxo
 have b29:(k == 29)=false:=beq_eq_false_iff_ne.2 zxo
 have b8:(k == 8)=false:=beq_eq_false_iff_ne.2 zxo
 have b17:(k == 17)=false:=beq_eq_false_iff_ne.2 zxo
 have b18:(k == 18)=false:=beq_eq_false_iff_ne.2 zxo
 have b21:(k == 21)=false:=beq_eq_false_iff_ne.2 zxo
 have b22:(k == 22)=false:=beq_eq_false_iff_ne.2 zxo
 have b23:(k == 23)=false:=beq_eq_false_iff_ne.2 zxo
 have b24:(k == 24)=false:=beq_eq_false_iff_ne.2 zxo
 have b30:(k == 30)=false:=beq_eq_false_iff_ne.2 zxo
 have b31:(k == 31)=false:=beq_eq_false_iff_ne.2 zxo
 have b32:(k == 32)=false:=beq_eq_false_iff_ne.2 zxo
 clear h
 cases hq:n.isEmpty with
 | true =>
  have e0:(qn n).toList=[]:=by rw[HE.out];exact List.isEmpty_iff.1 hq
  have e1:((qn n).toList == [])=true:=by rw[e0];rfl
  exact qsJ
 | false =>
  have e1:((qn n).toList == [])=false:=by rw[HE.out];cases n with | nil=>cases hq | cons=>rfl
  have e0:¬ (qn n).toList=[]:=by simpa using e1
  exact qsJ
theorem qu1 (HT:qoR) (t:Tree) (r:RN) (need:Nat) (w:World) (hm:NodeM w w.heap.size t r) (hc:qY t≤3000) :
  Calls Tryz.prog 64 #[r.val,.int .i64 need] w fun e w'=>e = .returned (.bool (qK qc qw t need))∧Below w.heap.size w w':=by
 obtain⟨k,f,en,a,n,l⟩:=t
 obtain⟨A,cap,rfl,hk⟩:=hm.open2
 have hlen:=jP hc
 have hn:n.length≤3000:=by omega
 by_cases h:k=1∨k=2∨k=3∨k=4∨k=5∨k=7∨k=9∨k=11∨k=12∨k=16∨k=25∨k=26∨k=29
 · exact quH k f en a n l A cap need w hn h
 by_cases h8:k=8
 · subst h8;exact quG f en a n l A cap need w hn
 by_cases h17:k=17∨k=18
 · exact qsm k f en a n l A cap need w hn h17
 by_cases h21:k=21
 · subst h21;exact qsF f en a n l A cap need w hn HT
 by_cases h22:k=22
 · subst h22;exact qtq f en a n l A cap need w hn HT
 by_cases h23:k=23
 · subst h23;exact qtH f en a n l A cap need w hn HT
 by_cases h24:k=24
 · subst h24;exact qt9 f en a n l A cap need w hn
 by_cases h30:k=30
 · subst h30;exact qun f en a n l A cap need w hn
 by_cases h31:k=31
 · subst h31;exact qqa f en a n l A cap need w hn
 by_cases h32:k=32
 · subst h32;exact qtJ f en a n l A cap need w hn
 exact quX k f en a n l A cap need w hn zxo
theorem qep (s:ByteArray) (w:World) {l:List Tk} (h:ja s.data.toList = .ok l) :
  Calls Tryz.prog 90 #[.string s] w fun e w'=>(∃ v,e = .returned (.tuple #[v,.int .i64 0,.int .i64 0])∧Own tkC 4 83 w' w.heap.size v l)∧Below w.heap.size w w':=by
 exact qqt
theorem qgJ (s:ByteArray) (w:World) {p:Nat} {er:Int} (h:ja s.data.toList = .error (p,er)) :
  Calls Tryz.prog 90 #[.string s] w fun e w'=>e = .returned (.tuple #[.slice none 0 0,.int .i64 (p:Nat),.int .i64 er])∧Below w.heap.size w w':=by
 exact qqt
theorem qtK (s:ByteArray) (k:Int) (w:World):Calls Tryz.prog 77 #[.string s,.int .i64 k] w fun e w'=>e = .returned (.bool (qw s.data.toList k))∧Below w.heap.size w w':=by
 cases ht:ja s.data.toList with
 | error p =>
  obtain⟨p,er⟩:=p
  have HT:=zxi (qgJ s w ht)
  have HV:=zxi (show qw s.data.toList k=false by unfold qw;rw[ht])
  clear ht
  by_cases h0:er=0
  · subst h0
    exact qrO
  · have b0:(er == 0)=false:=beq_eq_false_iff_ne.2 h0
    exact qrO
 | ok l =>
  have hy:=qep s w ht
  by_cases hl:l.length=2
  · obtain⟨a,b,rfl⟩:∃ a b,l=[a,b]:=by
     match l,hl with
     | [a,b],_=>exact⟨a,b,rfl⟩
    have hv:qw s.data.toList k=(decide ((a.kind:Int)=k)&&decide (a.text=s.data.toList)):=by unfold qw;rw[ht]
    have HY:=zxi hy
    clear ht hy
    obtain⟨y,hyy⟩:∃ y,qn a.text=y:=⟨_,rfl⟩
    have HE:=zxi hyy
    by_cases h1:(a.kind:Int)=k
    · have b1:((a.kind:Int) == k)=true:=beq_iff_eq.2 h1
      by_cases h2:a.text=s.data.toList
      · have HV:=zxi (show qw s.data.toList k=true by rw[hv,decide_eq_true h1,decide_eq_true h2];rfl)
        have e1:y.toList=s.toList:=by rw[← hyy,h2,jE]
        have e2:(y.toList == s.toList)=true:=by rw[e1];simp
        clear hv h2 hyy
        exact qnP
      · have HV:=zxi (show qw s.data.toList k=false by rw[hv,decide_eq_false h2];simp)
        have e1:¬ y.toList=s.toList:=fun e=>h2 (by rw[← hyy,ByteArray.toList_eq,ByteArray.toList_eq,qj] at e;exact e)
        have e2:(y.toList == s.toList)=false:=by simpa using e1
        clear hv h2 hyy
        exact qnP
    · have HV:=zxi (show qw s.data.toList k=false by rw[hv,decide_eq_false h1];rfl)
      have b1:((a.kind:Int) == k)=false:=beq_eq_false_iff_ne.2 h1
      clear hv hyy
      exact qnP
  · have HY:=zxi hy
    have HV:=zxi (show qw s.data.toList k=false by
     unfold qw;rw[ht]
     match l,hl with
     | [],_=>rfl
     | [_],_=>rfl
     | [a,b],h=>exact absurd rfl h
     | _::_::_::_,_=>rfl)
    have b1:((l.length:Int) == 2)=false:=beq_eq_false_iff_ne.2 zxo
    clear ht hy
    go_enter Tryz.func77,Tryz.ntmps77
    go_wp2_with (go_at_call 90;refine HY.out.mono ?_;rintro e w2 ⟨⟨v,rfl,hown⟩,hb⟩;obtain⟨A,c,rfl⟩:=qbT hown)
    exact qew
end Go.Proofs.YtacdfjlncfidgaaGreatDoor
