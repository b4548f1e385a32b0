/- A part of what the claim leans on. -/
import Derived.Test.YtacdfjlncfidgaaGreatDoorTE
import Derived.Laws.MakeOwn
import Derived.Laws.CopyOwn
import Derived.Deep.RegionHeld
import Derived.Below
import Derived.Test.YtacdfjlncfidgaaGreatDoorTB
namespace Go.Proofs.YtacdfjlncfidgaaGreatDoor
open Go.RowKit
set_option linter.unusedVariables false
set_option linter.unusedSimpArgs false
set_option maxRecDepth 100000
set_option maxHeartbeats 3200000
abbrev SortT (v : Value) (Pr : Tree → Bool) (w : World) (x : Tree) : Prop := SortAt Tryz.prog v Pr w x
def SortsAt (w : World) (A : Option Addr) (n : Nat) (Ps : List (Tree → Bool)) (l : List Tree) : Prop :=
 ∃ vs : List Value, RowOf (fun v : Value => [v]) 1 w w.heap.size A vs ∧ vs.length = n ∧ Ps.length = n ∧ ∀ (i : Nat) (v : Value) (P : Tree → Bool) (x : Tree), vs[i]? = some v → Ps[i]? = some P → l[i]? = some x → SortT v P w x
theorem SortsAt.later {w w' : World} {A : Option Addr} {n : Nat} {Ps : List (Tree → Bool)} {l : List Tree} (h : SortsAt w A n Ps l) (hb : Below w.heap.size w w') : SortsAt w' A n Ps l := by
 obtain ⟨vs, h1, h2, h3, h4⟩ := h
 exact ⟨vs, h1.after (Nat.le_refl _) hb, h2, h3, fun i v P x hv hP hx => (h4 i v P x hv hP hx).later hb⟩
theorem SortsAt.at {w : World} {A : Option Addr} {n : Nat} {Ps : List (Tree → Bool)} {l : List Tree} (h : SortsAt w A n Ps l) {i : Nat} {x : Tree} (hi : i < n) (hx : l[i]? = some x) :
  ∃ b off g lb P, A = some ⟨b, off, none⟩ ∧ b < w.heap.size ∧ Ps[i]? = some P ∧ w.cell? ⟨b, off + i, none⟩ = some (.func (.func g) #[] lb) ∧ (∀ args w, (callFunc g args).run Tryz.prog w = .ok (.enter g args) w) ∧
  ∀ (W : World) (rx : RN), Below w.heap.size w W → NodeM W W.heap.size x rx → Calls Tryz.prog g (#[rx.val] ++ lb) W fun e w' => e = .returned (.bool (P x)) ∧ Below W.heap.size W w' := by
 obtain ⟨vs, h1, h2, h3, h4⟩ := h
 obtain ⟨b, off, hA, hb, hc⟩ := h1 (by omega)
 obtain ⟨v, hv⟩ : ∃ v, vs[i]? = some v := ⟨_, List.getElem?_eq_getElem (by omega)⟩
 obtain ⟨P, hP⟩ : ∃ P, Ps[i]? = some P := ⟨_, List.getElem?_eq_getElem (by omega)⟩
 obtain ⟨g, lb, rfl, eg, hS⟩ := h4 i v P x hv hP hx
 refine ⟨b, off, g, lb, P, hA, hb, hP, ?_, eg, hS⟩
 have := hc i _ hv 0 _ rfl
 rw [Nat.mul_one] at this
 exact this
theorem SortsAt.len {w : World} {A : Option Addr} {n : Nat} {Ps : List (Tree → Bool)} {l : List Tree} (h : SortsAt w A n Ps l) : Ps.length = n := by
 obtain ⟨vs, h1, h2, h3, h4⟩ := h; exact h3
theorem allP_step {Ps : List (Tree → Bool)} {l : List Tree} {j : Nat} {P : Tree → Bool} {x : Tree} (hP : Ps[j]? = some P) (hx : l[j]? = some x) : allP (Ps.drop j) (l.drop j) = (P x && allP (Ps.drop (j + 1)) (l.drop (j + 1))) := by
 rw [drop_at_T hP, drop_at_T hx, allP]
theorem aShaped (t : Tree) (r : RN) (w : World) (hm : NodeM w w.heap.size t r) (k : Int) (A : Option Addr) (n c : Nat) (Ps : List (Tree → Bool)) (hS : SortsAt w A n Ps t.kids) (hc : costT t ≤ 3000) :
  Calls Tryz.prog 74 #[r.val, .int .i64 k, .slice A n c] w fun e w' => e = .returned (.bool (decide (t.kind = k) && allP Ps t.kids)) ∧ Below w.heap.size w w' := by
 obtain ⟨k', f, en, a, nm, l⟩ := t
 obtain ⟨A', cap, rfl, hk⟩ := hm.open2
 have hlen := kids_few hc
 change SortsAt w A n Ps l at hS
 show Calls Tryz.prog 74 _ w fun e w' => e = .returned (.bool (decide (k' = k) && allP Ps l)) ∧ Below w.heap.size w w'
 have HB := Lib.hid ((Below.refl w.heap.size w).alloc (Nat.le_refl _) (boxC ⟨k', f, en, a, toBA nm, A', l.length, cap⟩))
 have HK := Lib.hid hk
 have HS := Lib.hid hS
 clear hm hk hS hc
 unfold RN.val
 by_cases h0 : k' = k
 · subst h0
   by_cases h1 : l.length = n
   · have b1 : ((l.length : Int) != (n : Int)) = false := by simp [h1]
     have b2 : ((l.length : Int) == (n : Int)) = true := by simp [h1]
     have HL := Lib.hid h1
     clear h1
     go_enter Tryz.func74, Tryz.ntmps74
     go_wp2_with fail
     go_loopw [7, 8, 23] (fun _ _ i wr => ∃ j : Nat, j ≤ n ∧ i = .int .i64 j ∧ allP Ps l = allP (Ps.drop j) (l.drop j) ∧ wr.heap[w.heap.size]? = some (boxC ⟨k', f, en, a, toBA nm, A', l.length, cap⟩) ∧ Below w.heap.size w wr) (fun _ _ i _ => n - (intOf i).toNat)
     case atStart => exact ⟨0, Nat.zero_le _, rfl, rfl, heap_alloc_new _ _, HB.out⟩
     case round =>
      obtain ⟨j, hj, rfl, hv, hbx, hb⟩ := hrel
      have HB1 := Lib.hid hb
      have HV1 := Lib.hid hv
      have HBX := Lib.hid hbx
      obtain ⟨e0, e1, e2, e3, e4, e5, ez, el⟩ := ncells hbx
      have hsz := hb.size
      clear hb hv hbx
      by_cases hlt : j < n
      · obtain ⟨x, hx⟩ : ∃ x, l[j]? = some x := ⟨_, List.getElem?_eq_getElem (by rw [HL.out]; exact hlt)⟩
        have hlt2 : j < l.length := by rw [HL.out]; exact hlt
        obtain ⟨b, off, rx, rfl, hbb, hmx, c0, c1, c2, c3, c4, c5⟩ := (HK.out.later HB1.out (Nat.le_refl _)).at hx
        obtain ⟨b', off', g, lb, P, rfl, hbb', hP, d0, eg, hC⟩ := (HS.out.later HB1.out).at hlt hx
        have hb1 : b < wr.heap.size := by omega
        have HX := Lib.hid (show allP Ps l = (P x && allP (Ps.drop (j + 1)) (l.drop (j + 1))) by rw [HV1.out, allP_step hP hx])
        have HC := Lib.hid (hC wr rx (Below.refl _ _) (hmx.here hsz))
        unfold RN.val at HC
        clear hmx hx hC hP
        cases hq : P x with
        | true =>
         rw [hq] at HC HX
         go_wp2_with (go_at_fn g; refine HC.out.mono ?_; rintro e w2 ⟨rfl, hb2⟩; have HB2 := Lib.hid (And.intro (nb_below HBX.out hb2) (below_then HB1.out hb2)); clear hb2)
         go_roundw
         case rel => exact ⟨j + 1, by omega, by go_num, by rw [HX.out]; rfl, HB2.out.1, HB2.out.2⟩
         case measure => simp only [intOf]; omega
        | false =>
         rw [hq] at HC HX
         have HV := Lib.hid (show allP Ps l = false by rw [HX.out]; rfl)
         go_wp2_with (go_at_fn g; refine HC.out.mono ?_; rintro e w2 ⟨rfl, hb2⟩; have HB2 := Lib.hid (below_then HB1.out hb2); clear hb2)
         go_ret
         exact ⟨ret_bool (by rw [HV.out]; simp), HB2.out⟩
      · have HV := Lib.hid (show allP Ps l = true by rw [HV1.out, List.drop_of_length_le (by rw [HS.out.len]; omega), List.drop_of_length_le (by rw [HL.out]; omega)]; rfl)
        go_wp2_with fail
        go_ret
        exact ⟨ret_bool (by simp [HV.out]), HB1.out⟩
   · have b1 : ((l.length : Int) != (n : Int)) = true := by simp; omega
     have b2 : ((l.length : Int) == (n : Int)) = false := by simp; omega
     have HV := Lib.hid (show allP Ps l = false from allP_short (by rw [HS.out.len]; exact fun e => h1 e.symm))
     clear h1
     go_enter Tryz.func74, Tryz.ntmps74
     go_wp2_with fail
     go_ret
     exact ⟨ret_bool (by rw [HV.out]; simp), HB.out⟩
 · have b1 : (k' != k) = true := by simp [h0]
   have b2 : (k' == k) = false := by simp [h0]
   have HV := Lib.hid (decide_eq_false h0)
   clear h0
   go_enter Tryz.func74, Tryz.ntmps74
   go_wp2_with fail
   go_ret
   exact ⟨ret_bool (by rw [HV.out]; simp), HB.out⟩
theorem toBA_toList (n : BL) : (toBA n).toList = n := by rw [ByteArray.toList_eq, toBA_list]
theorem toBA_size (n : BL) : (toBA n).size = n.length := by show n.toArray.size = _; simp
theorem aPlain (t : Tree) (r : RN) (w : World) (hm : NodeM w w.heap.size t r) (k : Int) (A : Option Addr) (n c : Nat) (Ps : List (Tree → Bool)) (hS : SortsAt w A n Ps t.kids) (hc : costT t ≤ 3000) :
  Calls Tryz.prog 83 #[r.val, .int .i64 k, .slice A n c] w fun e w' => e = .returned (.bool (t.name.isEmpty && decide (t.kind = k) && allP Ps t.kids)) ∧ Below w.heap.size w w' := by
 have hb0 := (Below.refl w.heap.size w).alloc (Nat.le_refl _) (boxC r)
 have HC := Lib.hid (aShaped t r (w.alloc (boxC r)) (hm.boxed (Nat.le_refl _) _) k A n c Ps (hS.later hb0) hc)
 obtain ⟨k', f, en, a, nm, l⟩ := t
 obtain ⟨A', cap, rfl, hk⟩ := hm.open2
 have HB := Lib.hid hb0
 clear hm hk hS hc hb0
 change Hid (Calls _ _ _ _ fun e w' => e = .returned (.bool (decide (k' = k) && allP Ps l)) ∧ _) at HC
 show Calls _ _ _ _ fun e w' => e = .returned (.bool (nm.isEmpty && decide (k' = k) && allP Ps l)) ∧ _
 unfold RN.val at HC ⊢
 cases nm with
 | nil =>
  have e1 : (toBA []).toList = [] := toBA_toList []
  have e2 : ((toBA []).toList == []) = true := by rw [e1]; rfl
  have hz : toBA [] = ⟨#[]⟩ := rfl
  rw [hz] at HC ⊢
  go_enter Tryz.func83, Tryz.ntmps83
  go_wp2_with (go_at_call 74; refine HC.out.mono ?_; rintro e w2 ⟨rfl, hb2⟩; have HB2 := Lib.hid (below_then HB.out hb2); clear hb2)
  go_ret
  exact ⟨ret_bool (by simp), HB2.out⟩
 | cons x y =>
  have e1 : ¬ (toBA (x :: y)).toList = [] := by rw [toBA_toList]; simp
  have e2 : ((toBA (x :: y)).toList == []) = false := by rw [toBA_toList]; rfl
  clear HC
  go_enter Tryz.func83, Tryz.ntmps83
  go_wp2_with fail
  go_ret
  exact ⟨ret_bool (by simp), HB.out⟩
theorem aNamed (t : Tree) (r : RN) (w : World) (hm : NodeM w w.heap.size t r) (k : Int) (A : Option Addr) (n c : Nat) (Ps : List (Tree → Bool)) (hS : SortsAt w A n Ps t.kids) (hc : costT t ≤ 3000) :
  Calls Tryz.prog 58 #[r.val, .int .i64 k, .slice A n c] w fun e w' => e = .returned (.bool (nameV t.name && decide (t.kind = k) && allP Ps t.kids)) ∧ Below w.heap.size w w' := by
 have hb0 := (Below.refl w.heap.size w).alloc (Nat.le_refl _) (boxC r)
 have HC := Lib.hid (fun W (hb : Below (w.alloc (boxC r)).heap.size (w.alloc (boxC r)) W) => aShaped t r W ((hm.boxed (Nat.le_refl _) _).after (Nat.le_refl _) hb) k A n c Ps ((hS.later hb0).later hb) hc)
 obtain ⟨k', f, en, a, nm, l⟩ := t
 obtain ⟨A', cap, rfl, hk⟩ := hm.open2
 have hlen := kids_few hc
 have HB := Lib.hid hb0
 have HN := Lib.hid (lName (toBA nm) (w.alloc (boxC ⟨k', f, en, a, toBA nm, A', l.length, cap⟩)) (by rw [toBA_size]; omega))
 rw [toBA_list] at HN
 have HX := Lib.hid (heap_alloc_new w (boxC ⟨k', f, en, a, toBA nm, A', l.length, cap⟩))
 clear hm hk hS hc hb0
 change Hid (∀ (W : World) (hb : _), Calls _ _ _ _ fun e w' => e = .returned (.bool (decide (k' = k) && allP Ps l)) ∧ _) at HC
 show Calls _ _ _ _ fun e w' => e = .returned (.bool (nameV nm && decide (k' = k) && allP Ps l)) ∧ _
 unfold RN.val at HC ⊢
 cases hq : nameV nm with
 | true =>
  rw [hq] at HN
  go_enter Tryz.func58, Tryz.ntmps58
  go_wp2_with (first | (go_at_call 73; refine HN.out.mono ?_; rintro e w1 ⟨rfl, hb1⟩; have HB1 := Lib.hid hb1; obtain ⟨e0, e1, e2, e3, e4, e5, ez, el⟩ := ncells (nb_below HX.out hb1); clear hb1) | (go_at_call 74; refine (HC.out _ HB1.out).mono ?_; rintro e w2 ⟨rfl, hb2⟩; have HB2 := Lib.hid (below_then HB.out (below_then HB1.out hb2)); clear hb2))
  go_ret
  exact ⟨ret_bool (by simp), HB2.out⟩
 | false =>
  rw [hq] at HN
  clear HC
  go_enter Tryz.func58, Tryz.ntmps58
  go_wp2_with (go_at_call 73; refine HN.out.mono ?_; rintro e w1 ⟨rfl, hb1⟩)
  go_ret
  exact ⟨ret_bool (by simp), below_then HB.out hb1⟩
theorem info64 : (Tryz.prog.info? 64).map (fun i => (i.zero, i.size, i.bytes)) = some (some Value.nilFunc, 1, 8) := by kernel_rfl
theorem size64 : (Tryz.prog.info? 64).map (·.size) = some 1 := by kernel_rfl
def halfV (v : Value) (k m : Nat) : List Value := List.replicate k v ++ List.replicate (m - k) Value.nilFunc
theorem half_len (v : Value) {k m : Nat} (h : k ≤ m) : (halfV v k m).length = m := by simp [halfV]; omega
theorem half_splice (v : Value) {k c m : Nat} (h : k + c ≤ m) : splice (halfV v k m) k (List.replicate c v) = halfV v (k + c) m := by
 unfold splice halfV
 rw [List.take_left' (by simp), List.length_replicate, List.drop_append]
 simp only [List.length_replicate, List.drop_replicate, show k - (k + c) = 0 by omega, List.replicate_zero, List.nil_append, Nat.add_sub_cancel_left]
 rw [← List.append_assoc, List.replicate_append_replicate]
 congr 2; omega
theorem make_sorts (m : Nat) (hm : m ≤ 3000) (w : World) : (Instr.makeSlice 61 (.int .i64 (m : Int)) (.int .i64 (m : Int))).run Tryz.prog w = .ok (.slice (some ⟨w.heap.size, 0, none⟩) m m) (w.alloc (.cells (halfV Value.nilFunc 0 m).toArray 64)) := by
 obtain ⟨i, hi, hz0, hz1, hz2⟩ := info_cut info64
 have := run_make (P := Tryz.prog) w 61 64 i _ Tryz.underlying61 hi hz0 .i64 .i64 m m (by omega) (by omega) (by rw [hz2]; omega) (by omega)
 rw [this, hz1]
 have e : madeCells (Value.nilFunc).cells ((m : Int).toNat * 1) = (halfV Value.nilFunc 0 m).toArray := by
  apply Array.ext
  · rw [size_madeCells]; simp [halfV]
  · intro j h1 h2
    simp [madeCells, halfV, Value.cells, Nat.mod_one]
 rw [e]
 simp
theorem rep_src {w : World} {b off c k : Nat} {v : Value} (hc : c ≤ k) (h : ∀ j, j < k → w.cell? ⟨b, off + j, none⟩ = some v) : ∀ j u, (List.replicate c v)[j]? = some u → w.cell? ((⟨b, off, none⟩ : Addr).add j) = some u := fun j u hj => by
 have hlt : j < c := by
  have := (List.getElem?_eq_some_iff.1 hj).1
  simpa using this
 rw [List.getElem?_replicate, if_pos hlt] at hj
 cases hj
 rw [Addr.add_lit]
 exact h j (by omega)
theorem half_cell {w : World} {g m k : Nat} {v : Value} (h : w.heap[g]? = some (.cells (halfV v k m).toArray 64 (0, 0))) : ∀ j, j < k → w.cell? ⟨g, 0 + j, none⟩ = some v := fun j hj => by
 rw [cell_of_row _ _ _ _ _ _ h, Nat.zero_add, List.getElem?_toArray]
 unfold halfV
 rw [List.getElem?_append_left (by simpa using hj), List.getElem?_replicate, if_pos hj]
theorem run_copy_rep {W w0 : World} {B g off dLen dCap : Nat} {ad : Addr} {sLen sCap : Nat} {cur : List Value} {v : Value} {c : Nat} (hg : W.heap[g]? = some (.cells cur.toArray 64 (0, 0))) (hc : c = Nat.min sLen dLen)
  (hsrc : ∀ j u, (List.replicate c v)[j]? = some u → W.cell? (ad.add j) = some u) (hfit : off + c ≤ cur.length) (hv : v.oneCell' = true) (hb : Below B w0 W) (hB : B ≤ g) :
  ∃ W', (Builtin.copy_ #[61, 61] 3 #[.slice (some ⟨g, off, none⟩) dLen dCap, .slice (some ad) sLen sCap]).run Tryz.prog W = .ok (.int .i64 (c : Int)) W' ∧ W'.heap[g]? = some (.cells (splice cur off (List.replicate c v)).toArray 64 (0, 0)) ∧ Below B w0 W' := by
 have := run_copy_row (P := Tryz.prog) W 61 61 3 64 g off dLen dCap ad sLen sCap cur.toArray 64 (List.replicate c v) Tryz.underlying61 size64 hg (by rw [List.length_replicate]; exact hc) hsrc (by rw [List.length_replicate]; simpa using hfit) (fun u hu => by rw [(List.mem_replicate.1 hu).2]; exact hv)
 rw [List.length_replicate, List.append_assoc] at this
 refine ⟨_, this, ?_, below_setRow hb hB _⟩
 have h2 := setRow_heap W g cur.toArray (cur.take off ++ (List.replicate c v ++ cur.drop (off + c))).toArray 64 (0, 0) hg
 simp only [splice, List.length_replicate]
 exact h2
theorem aRepeat (v : Value) (hv : v.oneCell' = true) (b off m : Nat) (w : World) (hm : m ≤ 3000) (hb : b < w.heap.size) (hc : w.cell? ⟨b, off, none⟩ = some v) :
  Calls Tryz.prog 65 #[.slice (some ⟨b, off, none⟩) 1 1, .int .i64 (m : Int)] w fun e w' => (∃ g, e = .returned (.slice (some ⟨g, 0, none⟩) m m) ∧ w.heap.size ≤ g ∧ w'.heap[g]? = some (.cells (List.replicate m v).toArray 64 (0, 0))) ∧ Below w.heap.size w w' := by
 have hM := Tryz.bits_Mul 1 m (by omega) (by omega)
 have e1 : 1 * m / 18446744073709551616 = 0 := by omega
 have e2 : 1 * m % 18446744073709551616 = m := by omega
 rw [e1, e2] at hM
 have HM := Lib.hid hM
 have hmk := make_sorts m hm
 have HV := Lib.hid hv
 have p0 : (0 : Int) ≤ (m : Int) := by omega
 have p1 : (m : Int) ≤ 3000 := by omega
 obtain ⟨c1, hc1⟩ : ∃ c1, c1 = Nat.min 1 m := ⟨_, rfl⟩
 have hc1m : c1 ≤ m := by rw [hc1]; exact Nat.min_le_right _ _
 have hc1e : c1 ≤ 1 := by rw [hc1]; exact Nat.min_le_left _ _
 have hc10 : c1 = 0 → m = 0 := fun h => by rw [hc1] at h; simp only [Nat.min_def] at h; split at h <;> omega
 obtain ⟨w4, hcp, hg4, hb4⟩ := run_copy_rep (W := w.alloc (.cells (halfV Value.nilFunc 0 m).toArray 64)) (w0 := w) (B := w.heap.size) (g := w.heap.size) (off := 0) (dLen := m) (dCap := m) (ad := ⟨b, off, none⟩) (sLen := 1) (sCap := 1) (cur := halfV Value.nilFunc 0 m) (v := v) (c := c1) (heap_alloc_new _ _) hc1
  (rep_src (k := 1) hc1e (fun j hj => by
   obtain rfl : j = 0 := by omega
   exact (World.cell?_alloc_lt _ _ _ hb).trans hc)) (by rw [half_len _ (Nat.zero_le _)]; omega) hv ((Below.refl _ _).alloc (Nat.le_refl _) _) (Nat.le_refl _)
 rw [show halfV Value.nilFunc 0 m = halfV v 0 m by simp [halfV], half_splice v (by omega), Nat.zero_add] at hg4
 have HG := Lib.hid hg4
 have HB := Lib.hid hb4
 have HC1 := Lib.hid (And.intro hc1 hc10)
 clear hM e1 e2 hc1 hc10 hg4 hb4 hc hb hv
 go_enter Tryz.func65, Tryz.ntmps65
 go_wp2_with (first | (go_at_call 78; refine (HM.out _).mono ?_; rintro e w2 ⟨rfl, hw2⟩; subst hw2))
 go_loopw [8] (fun i wr => ∃ k : Nat, k ≤ m ∧ (k = 0 → m = 0) ∧ i = .int .i64 k ∧ wr.heap[w2.heap.size]? = some (.cells (halfV v k m).toArray 64 (0, 0)) ∧ Below w2.heap.size w2 wr) (fun i _ => m - (intOf i).toNat)
 case atStart => exact ⟨c1, hc1m, HC1.out.2, rfl, HG.out, HB.out⟩
 case round =>
  obtain ⟨k, hk, hk0, rfl, hg, hb⟩ := hrel
  have HG1 := Lib.hid hg
  have HB1 := Lib.hid hb
  clear hg hb
  by_cases hlt : k < m
  · obtain ⟨c, hcc⟩ : ∃ c, c = Nat.min k (m - k) := ⟨_, rfl⟩
    have hcm : k + c ≤ m := by
     have : c ≤ m - k := by rw [hcc]; exact Nat.min_le_right _ _
     omega
    have hck : c ≤ k := by rw [hcc]; exact Nat.min_le_left _ _
    have hc0 : 0 < c := by rw [hcc]; exact Nat.lt_min.2 ⟨by omega, by omega⟩
    have q0 : (0 : Int) ≤ (k : Int) := by omega
    have q1 : (k : Int) < (m : Int) := by omega
    have q2 : (k : Int) ≤ (m : Int) := by omega
    have HCC := Lib.hid hcc
    obtain ⟨w5, hcp5, hg5, hb5⟩ := run_copy_rep (W := wr.drew) (w0 := w2) (B := w2.heap.size) (g := w2.heap.size) (off := k) (dLen := m - k) (dCap := m - k) (ad := ⟨w2.heap.size, 0, none⟩) (sLen := k) (sCap := m) (cur := halfV v k m) (v := v) (c := c) HG1.out hcc (rep_src hck (half_cell HG1.out)) (by rw [half_len _ (by omega)]; omega) HV.out HB1.out.drew (Nat.le_refl _)
    rw [half_splice v (by omega)] at hg5
    have HG5 := Lib.hid hg5
    have HB5 := Lib.hid hb5
    clear hcc hg5 hb5 hcp
    go_wp2_with fail
    go_big_region
    go_wp2_with fail
    go_roundw
    case rel => exact ⟨k + c, hcm, by omega, by go_num, HG5.out, HB5.out⟩
    case measure => simp only [intOf]; omega
  · obtain rfl : k = m := by omega
    go_wp2_with fail
    go_ret
    exact ⟨⟨_, rfl, Nat.le_refl _, by rw [HG1.out]; simp [halfV]⟩, HB1.out⟩
theorem SortsAt.rep {w : World} {g m : Nat} {v : Value} {P : Tree → Bool} {l : List Tree} (h : w.heap[g]? = some (.cells (List.replicate m v).toArray 64 (0, 0))) (hv : ∀ x ∈ l, SortT v P w x) : SortsAt w (some ⟨g, 0, none⟩) m (List.replicate m P) l := by
 refine ⟨List.replicate m v, fun _ => ⟨g, 0, rfl, (Array.getElem?_eq_some_iff.1 h).1, fun i x hx j u hu => ?_⟩, by simp, by simp, fun i u Q x hu hQ hx => ?_⟩
 · have hi : i < m := by have := (List.getElem?_eq_some_iff.1 hx).1; simpa using this
   rw [List.getElem?_replicate, if_pos hi] at hx
   cases hx
   cases j with
   | zero =>
    cases hu
    rw [cell_of_row _ _ _ _ _ _ h, List.getElem?_toArray]
    simp [hi]
   | succ j => simp at hu
 · have hi : i < m := by have := (List.getElem?_eq_some_iff.1 hu).1; simpa using this
   rw [List.getElem?_replicate, if_pos hi] at hu hQ
   cases hu; cases hQ
   exact hv x (List.mem_of_getElem? hx)
theorem aAll (t : Tree) (r : RN) (w : World) (hm : NodeM w w.heap.size t r) (gf : Nat) (lb : Array Value) (hc : costT t ≤ 3000) :
  Calls Tryz.prog 55 #[r.val, .func (.func gf) #[] lb] w fun e w' => (∃ g, e = .returned (.slice (some ⟨g, 0, none⟩) t.kids.length t.kids.length) ∧ w.heap.size ≤ g ∧ w'.heap[g]? = some (.cells (List.replicate t.kids.length (.func (.func gf) #[] lb)).toArray 64 (0, 0))) ∧ Below w.heap.size w w' := by
 obtain ⟨k', f, en, a, nm, l⟩ := t
 obtain ⟨A', cap, rfl, hk⟩ := hm.open2
 have hlen := kids_few hc
 show Calls _ _ _ _ fun e w' => (∃ g, e = .returned (.slice (some ⟨g, 0, none⟩) l.length l.length) ∧ w.heap.size ≤ g ∧ w'.heap[g]? = some (.cells (List.replicate l.length (.func (.func gf) #[] lb)).toArray 64 (0, 0))) ∧ _
 have HB := Lib.hid (below2 w (boxC ⟨k', f, en, a, toBA nm, A', l.length, cap⟩) (.cells #[.func (.func gf) #[] lb] 64))
 have hsz : ((w.alloc (boxC ⟨k', f, en, a, toBA nm, A', l.length, cap⟩)).alloc (.cells #[.func (.func gf) #[] lb] 64)).heap.size = w.heap.size + 2 := by rw [World.size_alloc, World.size_alloc]
 have HR := Lib.hid (aRepeat (.func (.func gf) #[] lb) rfl (w.heap.size + 1) 0 l.length ((w.alloc (boxC ⟨k', f, en, a, toBA nm, A', l.length, cap⟩)).alloc (.cells #[.func (.func gf) #[] lb] 64)) (by omega) (by omega) (by rw [World.cell?_alloc_at _ _ _ _ (by rw [World.size_alloc])]; rfl))
 clear hm hk hc
 unfold RN.val
 go_enter Tryz.func55, Tryz.ntmps55
 go_wp2_with (go_at_call 65; refine HR.out.mono ?_; rintro e w2 ⟨⟨g, rfl, hg, hrow⟩, hb2⟩; have HB2 := Lib.hid (below_then HB.out hb2); have HRW := Lib.hid hrow; clear hb2 hrow)
 go_ret
 exact ⟨⟨g, rfl, by omega, HRW.out⟩, HB2.out⟩
def OneAt (w : World) (A : Option Addr) (n : Nat) (Ps : List (Tree → Bool)) (x : Tree) : Prop :=
 ∃ vs : List Value, RowOf (fun v : Value => [v]) 1 w w.heap.size A vs ∧ vs.length = n ∧ Ps.length = n ∧ ∀ (i : Nat) (v : Value) (P : Tree → Bool), vs[i]? = some v → Ps[i]? = some P → SortT v P w x
theorem OneAt.later {w w' : World} {A : Option Addr} {n : Nat} {Ps : List (Tree → Bool)} {x : Tree} (h : OneAt w A n Ps x) (hb : Below w.heap.size w w') : OneAt w' A n Ps x := by
 obtain ⟨vs, h1, h2, h3, h4⟩ := h
 exact ⟨vs, h1.after (Nat.le_refl _) hb, h2, h3, fun i v P hv hP => (h4 i v P hv hP).later hb⟩
theorem OneAt.at {w : World} {A : Option Addr} {n : Nat} {Ps : List (Tree → Bool)} {x : Tree} (h : OneAt w A n Ps x) {i : Nat} (hi : i < n) :
  ∃ b off g lb P, A = some ⟨b, off, none⟩ ∧ b < w.heap.size ∧ Ps[i]? = some P ∧ w.cell? ⟨b, off + i, none⟩ = some (.func (.func g) #[] lb) ∧ (∀ args w, (callFunc g args).run Tryz.prog w = .ok (.enter g args) w) ∧
  ∀ (W : World) (rx : RN), Below w.heap.size w W → NodeM W W.heap.size x rx → Calls Tryz.prog g (#[rx.val] ++ lb) W fun e w' => e = .returned (.bool (P x)) ∧ Below W.heap.size W w' := by
 obtain ⟨vs, h1, h2, h3, h4⟩ := h
 obtain ⟨b, off, hA, hb, hc⟩ := h1 (by omega)
 obtain ⟨v, hv⟩ : ∃ v, vs[i]? = some v := ⟨_, List.getElem?_eq_getElem (by omega)⟩
 obtain ⟨P, hP⟩ : ∃ P, Ps[i]? = some P := ⟨_, List.getElem?_eq_getElem (by omega)⟩
 obtain ⟨g, lb, rfl, eg, hS⟩ := h4 i v P hv hP
 refine ⟨b, off, g, lb, P, hA, hb, hP, ?_, eg, hS⟩
 have := hc i _ hv 0 _ rfl
 rw [Nat.mul_one] at this
 exact this
theorem OneAt.len {w : World} {A : Option Addr} {n : Nat} {Ps : List (Tree → Bool)} {x : Tree} (h : OneAt w A n Ps x) : Ps.length = n := by
 obtain ⟨vs, h1, h2, h3, h4⟩ := h; exact h3
def anyP (Ps : List (Tree → Bool)) (x : Tree) : Bool := Ps.any (fun p => p x)
theorem any_step {Ps : List (Tree → Bool)} {j : Nat} {P : Tree → Bool} {x : Tree} (hP : Ps[j]? = some P) : anyP (Ps.drop j) x = (P x || anyP (Ps.drop (j + 1)) x) := by
 rw [drop_at_T hP]; rfl
theorem aIs (g : Nat) (lb : Array Value) (bx : Nat) (rx : RN) (w : World) (b : Bool) (hbx : w.heap[bx]? = some (boxC rx)) (eg : ∀ args w, (callFunc g args).run Tryz.prog w = .ok (.enter g args) w)
  (h : Calls Tryz.prog g (#[rx.val] ++ lb) w fun e w' => e = .returned (.bool b) ∧ Below w.heap.size w w') :
  Calls Tryz.prog 81 #[.func (.func g) #[] lb, .pointer (some ⟨bx, 0, none⟩)] w fun e w' => e = .returned (.bool b) ∧ Below w.heap.size w w' := by
 obtain ⟨e0, e1, e2, e3, e4, e5, ez, el⟩ := ncells hbx
 have HC := Lib.hid h
 unfold RN.val at HC
 clear h hbx
 go_enter Tryz.func81, Tryz.ntmps81
 go_wp2_with (go_at_fn g; refine HC.out.mono ?_; rintro e w2 ⟨rfl, hb2⟩)
 go_ret
 exact ⟨rfl, hb2⟩
theorem aIdxS (x : Tree) (rx : RN) (A : Option Addr) (n c : Nat) (Ps : List (Tree → Bool)) (bx : Nat) (w : World) (hn : n ≤ 1000) (hO : OneAt w A n Ps x) (hbx : w.heap[bx]? = some (boxC rx)) (hm : NodeM w w.heap.size x rx) :
  Calls Tryz.prog 93 #[.slice A n c, .func (.func 81) #[] #[.pointer (some ⟨bx, 0, none⟩)]] w fun e w' => (∃ i : Int, e = .returned (.int .i64 i) ∧ decide (0 ≤ i) = anyP Ps x) ∧ Below w.heap.size w w' := by
 have HO := Lib.hid hO
 have HX := Lib.hid hbx
 have HM := Lib.hid hm
 clear hO hbx hm
 go_enter Tryz.func93, Tryz.ntmps93
 go_wp2_with fail
 go_loopw [8] (fun i wr => ∃ j : Nat, j ≤ n ∧ i = .int .i64 j ∧ anyP Ps x = anyP (Ps.drop j) x ∧ Below w.heap.size w wr) (fun i _ => n - (intOf i).toNat)
 case atStart => exact ⟨0, Nat.zero_le _, rfl, rfl, Below.refl _ _⟩
 case round =>
  obtain ⟨j, hj, rfl, hv, hb⟩ := hrel
  have HB1 := Lib.hid hb
  have HV1 := Lib.hid hv
  clear hb hv
  by_cases hlt : j < n
  · obtain ⟨b, off, g, lb, P, rfl, hbb, hP, d0, eg, hC⟩ := (HO.out.later HB1.out).at hlt
    have HV2 := Lib.hid (show anyP Ps x = (P x || anyP (Ps.drop (j + 1)) x) by rw [HV1.out, any_step hP])
    have HC := Lib.hid (aIs g lb bx rx wr (P x) (nb_below HX.out HB1.out) eg (hC wr rx (Below.refl _ _) (HM.out.after (Nat.le_refl _) HB1.out)))
    have eg2 : ∀ args w, (callFunc 81 args).run Tryz.prog w = .ok (.enter 81 args) w := fun args w => by rfl
    clear hC hP eg
    cases hq : P x with
    | true =>
     rw [hq] at HC HV2
     go_wp2_with (go_at_fn 81; refine HC.out.mono ?_; rintro e w2 ⟨rfl, hb2⟩; have HB2 := Lib.hid (below_then HB1.out hb2); clear hb2)
     go_ret
     exact ⟨⟨_, rfl, by rw [HV2.out]; simp⟩, HB2.out⟩
    | false =>
     rw [hq] at HC HV2
     go_wp2_with (go_at_fn 81; refine HC.out.mono ?_; rintro e w2 ⟨rfl, hb2⟩; have HB2 := Lib.hid (below_then HB1.out hb2); clear hb2)
     go_roundw
     case rel => exact ⟨j + 1, by omega, by go_num, by rw [HV2.out]; rfl, HB2.out⟩
     case measure => simp only [intOf]; omega
  · have HV := Lib.hid (show anyP Ps x = false by rw [HV1.out, List.drop_of_length_le (by rw [HO.out.len]; omega)]; rfl)
    go_wp2_with fail
    go_ret
    exact ⟨⟨_, rfl, by rw [HV.out]; rfl⟩, HB1.out⟩
theorem aContains (x : Tree) (rx : RN) (A : Option Addr) (n c : Nat) (Ps : List (Tree → Bool)) (bx : Nat) (w : World) (hn : n ≤ 1000) (hO : OneAt w A n Ps x) (hbx : w.heap[bx]? = some (boxC rx)) (hm : NodeM w w.heap.size x rx) :
  Calls Tryz.prog 80 #[.slice A n c, .func (.func 81) #[] #[.pointer (some ⟨bx, 0, none⟩)]] w fun e w' => e = .returned (.bool (anyP Ps x)) ∧ Below w.heap.size w w' := by
 have HI := Lib.hid (aIdxS x rx A n c Ps bx w hn hO hbx hm)
 clear hO hbx hm
 go_enter Tryz.func80, Tryz.ntmps80
 go_wp2_with (go_at_call 93; refine HI.out.mono ?_; rintro e w2 ⟨⟨i, rfl, hi⟩, hb2⟩; have HI2 := Lib.hid hi; clear hi)
 go_ret
 exact ⟨ret_bool HI2.out, hb2⟩
def OneV (w : World) (v : Value) (A : Option Addr) (n c : Nat) : Prop := ∃ bx, v = .func (.func 79) #[] #[.pointer (some ⟨bx, 0, none⟩)] ∧ w.heap[bx]? = some (.cells #[.slice A n c] 61 (0, 0))
theorem aOneV {w : World} {v : Value} {A : Option Addr} {n c : Nat} {Ps : List (Tree → Bool)} {x : Tree} (hv : OneV w v A n c) (hn : n ≤ 1000) (hO : OneAt w A n Ps x) : SortT v (anyP Ps) w x := by
 obtain ⟨bx, rfl, hbx⟩ := hv
 refine ⟨79, _, rfl, fun args w => by rfl, fun W rx hW hm => ?_⟩
 obtain ⟨f0, fz, fl⟩ := cell1 (nb_below hbx hW)
 have hb0 := (Below.refl W.heap.size W).alloc (Nat.le_refl _) (boxC rx)
 have HC := Lib.hid (aContains x rx A n c Ps W.heap.size (W.alloc (boxC rx)) hn ((hO.later hW).later hb0) (heap_alloc_new _ _) (hm.boxed (Nat.le_refl _) _))
 have HB := Lib.hid hb0
 clear hm hO hbx hW hb0
 show Calls Tryz.prog 79 #[rx.val, .pointer (some ⟨bx, 0, none⟩)] W _
 unfold RN.val
 go_enter Tryz.func79, Tryz.ntmps79
 go_wp2_with (go_at_call 80; refine HC.out.mono ?_; rintro e w2 ⟨rfl, hb2⟩)
 go_ret
 exact ⟨rfl, below_then HB.out hb2⟩
theorem aOne (A : Option Addr) (n c : Nat) (w : World) : Calls Tryz.prog 67 #[.slice A n c] w fun e w' => (∃ lb, e = .returned (.func (.func 79) #[] lb) ∧ OneV w' (.func (.func 79) #[] lb) A n c) ∧ Below w.heap.size w w' := by
 have HX := Lib.hid (heap_alloc_new w (.cells #[.slice A n c] 61))
 go_enter Tryz.func67, Tryz.ntmps67
 go_wp2_with fail
 go_ret
 exact ⟨⟨_, rfl, _, rfl, HX.out⟩, (Below.refl _ _).alloc (Nat.le_refl _) _⟩
noncomputable abbrev RR (d : Nat) (t : Tree) : Bool := isR nameV tokT t d
def FnP (f : Nat) (P : Tree → Bool) (x : Tree) : Prop := ∀ (r : RN) (w : World), LexG w → NodeM w w.heap.size x r → costT x ≤ 3000 → Calls Tryz.prog f #[r.val] w fun e w' => e = .returned (.bool (P x)) ∧ Below w.heap.size w w'
theorem FnP.sort {f : Nat} {P : Tree → Bool} {x : Tree} {w : World} (h : FnP f P x) (eg : ∀ args w, (callFunc f args).run Tryz.prog w = .ok (.enter f args) w) (hG : LexG w) (hc : costT x ≤ 3000) : SortT (.func (.func f) #[] #[]) P w x :=
 ⟨f, #[], rfl, eg, fun W rx hW hm => by simpa using h rx W (hG.below hW) hm hc⟩
def PairOk (w : World) (l : List Tree) : List Value → List (Tree → Bool) → Prop
 | [], [] => True
 | v :: vs, P :: Ps => (∀ x ∈ l, SortT v P w x) ∧ PairOk w l vs Ps
 | _, _ => False
theorem PairOk.len {w : World} {l : List Tree} : ∀ {vs : List Value} {Ps : List (Tree → Bool)}, PairOk w l vs Ps → Ps.length = vs.length
 | [], [], _ => rfl
 | v :: vs, P :: Ps, h => by simp [PairOk.len h.2]
theorem PairOk.at {w : World} {l : List Tree} : ∀ {vs : List Value} {Ps : List (Tree → Bool)}, PairOk w l vs Ps → ∀ (i : Nat) (v : Value) (P : Tree → Bool), vs[i]? = some v → Ps[i]? = some P → ∀ x ∈ l, SortT v P w x
 | v :: vs, P :: Ps, h, 0, u, Q, hu, hQ => by cases hu; cases hQ; exact h.1
 | v :: vs, P :: Ps, h, i + 1, u, Q, hu, hQ => PairOk.at h.2 i u Q (by simpa using hu) (by simpa using hQ)
 | [], [], h, i, u, Q, hu, hQ => by simp at hu
theorem row_lit {w : World} {g : Nat} {vs : List Value} (h : w.heap[g]? = some (.cells vs.toArray 64 (0, 0))) : RowOf (fun v : Value => [v]) 1 w w.heap.size (some ⟨g, 0, none⟩) vs := fun _ => by
 refine ⟨g, 0, rfl, (Array.getElem?_eq_some_iff.1 h).1, fun i x hx j u hu => ?_⟩
 cases j with
 | zero =>
  cases hu
  rw [cell_of_row _ _ _ _ _ _ h, List.getElem?_toArray]
  simpa using hx
 | succ j => simp at hu
theorem SortsAt.lit {w : World} {g : Nat} {vs : List Value} {Ps : List (Tree → Bool)} {l : List Tree} (h : w.heap[g]? = some (.cells vs.toArray 64 (0, 0))) (hp : PairOk w l vs Ps) : SortsAt w (some ⟨g, 0, none⟩) vs.length Ps l :=
 ⟨vs, row_lit h, rfl, hp.len, fun i v P x hv hP hx => hp.at i v P hv hP x (List.mem_of_getElem? hx)⟩
theorem SortsAt.nil_ (w : World) (A : Option Addr) (l : List Tree) : SortsAt w A 0 [] l := ⟨[], RowOf.nil_, rfl, rfl, fun i v P x hv _ _ => by simp at hv⟩
theorem OneAt.lit {w : World} {g : Nat} {vs : List Value} {Ps : List (Tree → Bool)} {x : Tree} (h : w.heap[g]? = some (.cells vs.toArray 64 (0, 0))) (hp : PairOk w [x] vs Ps) : OneAt w (some ⟨g, 0, none⟩) vs.length Ps x :=
 ⟨vs, row_lit h, rfl, hp.len, fun i v P hv hP => hp.at i v P hv hP x (by simp)⟩
theorem LexG.alloc {w : World} (h : LexG w) (o : Obj) : LexG (w.alloc o) := h.below ((Below.refl _ _).alloc (Nat.le_refl _) o)
theorem okNothing (x : Tree) : FnP 69 (RR 0) x := by
 intro r w hG hm hc
 have hp := aPlain x r (w.alloc (boxC r)) (hm.boxed (Nat.le_refl _) _) 0 none 0 0 [] (.nil_ _ _ _) hc
 have e : (x.name.isEmpty && decide (x.kind = 0) && allP [] x.kids) = RR 0 x := by
  obtain ⟨k, f, e, a, n, l⟩ := x
  show (n.isEmpty && decide (k = 0) && allP [] l) = isR nameV tokT _ 0
  rw [isR_0, allP_nil, Bool.and_comm n.isEmpty]
 rw [e] at hp
 have HP := Lib.hid hp
 have HB := Lib.hid ((Below.refl w.heap.size w).alloc (Nat.le_refl _) (boxC r))
 generalize RR 0 x = B at *
 clear hG hm hc hp e
 unfold RN.val at HP ⊢
 go_enter Tryz.func69, Tryz.ntmps69
 go_wp2_with (go_at_call 83; refine HP.out.mono ?_; rintro e w2 ⟨rfl, hb2⟩)
 go_ret
 exact ⟨rfl, below_then HB.out hb2⟩
theorem kid_costT {t x : Tree} {N : Nat} (h : costT t ≤ N) (hx : x ∈ t.kids) : costT x ≤ N := by
 obtain ⟨k, f, e, a, n, l⟩ := t
 exact kid_cost h hx
theorem isR_1n (k f t a : Int) (n : BL) (l : List Tree) : isR nameV tokT (.mk k f t a n l) 1 = (nameV n && decide (k = 2) && l.isEmpty) := by
 rw [isR_eq, isRL_eq]
 by_cases h : k = 2
 · subst h; simp [ownR, needOf, kindsR, nameR, rowR, Tree.kind, Tree.name, Tree.kids, allP_nil]
 · simp [ownR, needOf, kindsR, Tree.kind, h]
noncomputable def farV (t : Tree) : Bool := nameV t.name && decide (t.kind = 9) && allP [RR 17] t.kids
theorem okIdent (x : Tree) : FnP 94 (RR 17) x := by
 intro r w hG hm hc
 have hp := aNamed x r (w.alloc (boxC r)) (hm.boxed (Nat.le_refl _) _) 25 none 0 0 [] (.nil_ _ _ _) hc
 have HB := Lib.hid ((Below.refl w.heap.size w).alloc (Nat.le_refl _) (boxC r))
 have e : (nameV x.name && decide (x.kind = 25) && allP [] x.kids) = RR 17 x := by
  obtain ⟨k, f, e, a, n, l⟩ := x
  show (nameV n && decide (k = 25) && allP [] l) = (isR nameV tokT (.mk k f e a n l) 17)
  rw [isR_17, allP_nil, Bool.and_comm (nameV n)]
 rw [e] at hp
 have HP := Lib.hid hp
 generalize RR 17 x = B at *
 clear hG hm hc hp e
 unfold RN.val at HP ⊢
 go_enter Tryz.func94, Tryz.ntmps94
 go_wp2_with (go_at_call 58; refine HP.out.mono ?_; rintro e w2 ⟨rfl, hb2⟩)
 go_ret
 exact ⟨rfl, below_then HB.out hb2⟩
theorem okOwn (x : Tree) : FnP 82 (RR 7) x := by
 intro r w hG hm hc
 have hp := aNamed x r (w.alloc (boxC r)) (hm.boxed (Nat.le_refl _) _) 8 none 0 0 [] (.nil_ _ _ _) hc
 have HB := Lib.hid ((Below.refl w.heap.size w).alloc (Nat.le_refl _) (boxC r))
 have e : (nameV x.name && decide (x.kind = 8) && allP [] x.kids) = RR 7 x := by
  obtain ⟨k, f, e, a, n, l⟩ := x
  show (nameV n && decide (k = 8) && allP [] l) = (isR nameV tokT (.mk k f e a n l) 7)
  rw [isR_7, allP_nil, Bool.and_comm (nameV n)]
 rw [e] at hp
 have HP := Lib.hid hp
 generalize RR 7 x = B at *
 clear hG hm hc hp e
 unfold RN.val at HP ⊢
 go_enter Tryz.func82, Tryz.ntmps82
 go_wp2_with (go_at_call 58; refine HP.out.mono ?_; rintro e w2 ⟨rfl, hb2⟩)
 go_ret
 exact ⟨rfl, below_then HB.out hb2⟩
theorem okFar (x : Tree) : FnP 85 (farV) x := by
 intro r w hG hm hc
 have hrow := heap_alloc_new (w.alloc (boxC r)) (.cells #[.func (.func 94) #[] #[]] 64)
 rw [World.size_alloc] at hrow
 have hG2 := (hG.alloc (boxC r)).alloc (.cells #[.func (.func 94) #[] #[]] 64)
 have hp := aNamed x r ((w.alloc (boxC r)).alloc (.cells #[.func (.func 94) #[] #[]] 64)) (hm.boxed2 _ _) 9 (some ⟨w.heap.size + 1, 0, none⟩) 1 1 [RR 17] (SortsAt.lit (vs := [.func (.func 94) #[] #[]]) hrow ⟨fun y hy => (okIdent y).sort (fun args w => by rfl) hG2 (kid_costT hc hy), trivial⟩) hc
 have HB := Lib.hid (below2 w (boxC r) (.cells #[.func (.func 94) #[] #[]] 64))
 have e : (nameV x.name && decide (x.kind = 9) && allP [RR 17] x.kids) = farV x := by
  obtain ⟨k, f, e, a, n, l⟩ := x
  show (nameV n && decide (k = 9) && allP [RR 17] l) = farV (.mk k f e a n l)
  rfl
 rw [e] at hp
 have HP := Lib.hid hp
 generalize farV x = B at *
 clear hG hm hc hp e hrow hG2
 unfold RN.val at HP ⊢
 go_enter Tryz.func85, Tryz.ntmps85
 go_wp2_with (go_at_call 58; refine HP.out.mono ?_; rintro e w2 ⟨rfl, hb2⟩)
 go_ret
 exact ⟨rfl, below_then HB.out hb2⟩
theorem any8 (k f e a : Int) (n : BL) (l : List Tree) : isR nameV tokT (.mk k f e a n l) 8 = (isR nameV tokT (.mk k f e a n l) 7 || farV (.mk k f e a n l) || (hasB basicW n && (decide (k = 8) && allP [] l))) := by
 rw [isR_8, allP_nil]
 unfold farV
 show (isR nameV tokT _ 7 || (decide (k = 9) && nameV n && _) || _) = (isR nameV tokT _ 7 || (nameV n && decide (k = 9) && _) || _)
 rw [Bool.and_comm (nameV n), Bool.and_assoc (basicW.contains n)]
 rfl
theorem okAny (x : Tree) : FnP 71 (RR 8) x := by
 intro r w hG hm hc
 have hb0 := (Below.refl w.heap.size w).alloc (Nat.le_refl _) (boxC r)
 have hG0 := hG.alloc (boxC r)
 have hm0 := hm.boxed (Nat.le_refl _) (boxC r)
 have HX := Lib.hid (heap_alloc_new w (boxC r))
 have H1 := Lib.hid (okOwn x r (w.alloc (boxC r)) hG0 hm0 hc)
 have H2 := Lib.hid (fun W (hb : Below (w.alloc (boxC r)).heap.size (w.alloc (boxC r)) W) => okFar x r W (hG0.below hb) (hm0.after (Nat.le_refl _) hb) hc)
 have H3 := Lib.hid (fun W (hb : Below (w.alloc (boxC r)).heap.size (w.alloc (boxC r)) W) => aBasic r.name W (hG0.below hb))
 have H4 := Lib.hid (fun W (hb : Below (w.alloc (boxC r)).heap.size (w.alloc (boxC r)) W) => aShaped x r W (hm0.after (Nat.le_refl _) hb) 8 none 0 0 [] (.nil_ _ _ _) hc)
 have HB := Lib.hid hb0
 have hv : RR 8 x = (RR 7 x || farV x || (hasB basicW x.name && (decide (x.kind = 8) && allP [] x.kids))) := by
  obtain ⟨k, f, e, a, n, l⟩ := x
  exact any8 k f e a n l
 have hname : r.name.data.toList = x.name := by rw [hm.name, toBA_list]
 rw [hname] at H3
 generalize RR 8 x = B at *
 generalize RR 7 x = B7 at *
 generalize farV x = B9 at *
 generalize hasB basicW x.name = Bb at *
 generalize (decide (x.kind = 8) && allP [] x.kids) = Bk at *
 subst hv
 clear hG hm hc hG0 hm0 hb0 hname
 unfold RN.val at H1 H2 H4 ⊢
 cases B7 with
 | true =>
  go_enter Tryz.func71, Tryz.ntmps71
  go_wp2_with (first | (go_at_call 82; refine H1.out.mono ?_; rintro e w1 ⟨rfl, hb1⟩; have HB1 := Lib.hid hb1; obtain ⟨e0, e1, e2, e3, e4, e5, ez, el⟩ := ncells (nb_below HX.out hb1); clear hb1) | (go_at_call 85; refine (H2.out _ HB1.out).mono ?_; rintro e w2 ⟨rfl, hb2⟩; have HB2 := Lib.hid (below_then HB1.out hb2); clear e0 e1 e2 e3 e4 e5 ez el; obtain ⟨e0, e1, e2, e3, e4, e5, ez, el⟩ := ncells (nb_below HX.out HB2.out); clear hb2) | (go_at_call 86; refine (H3.out _ HB2.out).mono ?_; rintro e w3 ⟨rfl, hb3⟩; have HB3 := Lib.hid (below_then HB2.out hb3); clear e0 e1 e2 e3 e4 e5 ez el; obtain ⟨e0, e1, e2, e3, e4, e5, ez, el⟩ := ncells (nb_below HX.out HB3.out); clear hb3) | (go_at_call 74; refine (H4.out _ HB3.out).mono ?_; rintro e w4 ⟨rfl, hb4⟩; have HB4 := Lib.hid (below_then HB3.out hb4); clear hb4))
  go_ret
  exact ⟨ret_bool (by simp), below_then HB.out HB1.out⟩
 | false =>
  cases B9 with
  | true =>
   go_enter Tryz.func71, Tryz.ntmps71
   go_wp2_with (first | (go_at_call 82; refine H1.out.mono ?_; rintro e w1 ⟨rfl, hb1⟩; have HB1 := Lib.hid hb1; obtain ⟨e0, e1, e2, e3, e4, e5, ez, el⟩ := ncells (nb_below HX.out hb1); clear hb1) | (go_at_call 85; refine (H2.out _ HB1.out).mono ?_; rintro e w2 ⟨rfl, hb2⟩; have HB2 := Lib.hid (below_then HB1.out hb2); clear e0 e1 e2 e3 e4 e5 ez el; obtain ⟨e0, e1, e2, e3, e4, e5, ez, el⟩ := ncells (nb_below HX.out HB2.out); clear hb2) | (go_at_call 86; refine (H3.out _ HB2.out).mono ?_; rintro e w3 ⟨rfl, hb3⟩; have HB3 := Lib.hid (below_then HB2.out hb3); clear e0 e1 e2 e3 e4 e5 ez el; obtain ⟨e0, e1, e2, e3, e4, e5, ez, el⟩ := ncells (nb_below HX.out HB3.out); clear hb3) | (go_at_call 74; refine (H4.out _ HB3.out).mono ?_; rintro e w4 ⟨rfl, hb4⟩; have HB4 := Lib.hid (below_then HB3.out hb4); clear hb4))
   go_ret
   exact ⟨ret_bool (by simp), below_then HB.out HB2.out⟩
  | false =>
   cases Bb with
   | false =>
    go_enter Tryz.func71, Tryz.ntmps71
    go_wp2_with (first | (go_at_call 82; refine H1.out.mono ?_; rintro e w1 ⟨rfl, hb1⟩; have HB1 := Lib.hid hb1; obtain ⟨e0, e1, e2, e3, e4, e5, ez, el⟩ := ncells (nb_below HX.out hb1); clear hb1) | (go_at_call 85; refine (H2.out _ HB1.out).mono ?_; rintro e w2 ⟨rfl, hb2⟩; have HB2 := Lib.hid (below_then HB1.out hb2); clear e0 e1 e2 e3 e4 e5 ez el; obtain ⟨e0, e1, e2, e3, e4, e5, ez, el⟩ := ncells (nb_below HX.out HB2.out); clear hb2) | (go_at_call 86; refine (H3.out _ HB2.out).mono ?_; rintro e w3 ⟨rfl, hb3⟩; have HB3 := Lib.hid (below_then HB2.out hb3); clear e0 e1 e2 e3 e4 e5 ez el; obtain ⟨e0, e1, e2, e3, e4, e5, ez, el⟩ := ncells (nb_below HX.out HB3.out); clear hb3) | (go_at_call 74; refine (H4.out _ HB3.out).mono ?_; rintro e w4 ⟨rfl, hb4⟩; have HB4 := Lib.hid (below_then HB3.out hb4); clear hb4))
    go_ret
    exact ⟨ret_bool (by simp), below_then HB.out HB3.out⟩
   | true =>
    go_enter Tryz.func71, Tryz.ntmps71
    go_wp2_with (first | (go_at_call 82; refine H1.out.mono ?_; rintro e w1 ⟨rfl, hb1⟩; have HB1 := Lib.hid hb1; obtain ⟨e0, e1, e2, e3, e4, e5, ez, el⟩ := ncells (nb_below HX.out hb1); clear hb1) | (go_at_call 85; refine (H2.out _ HB1.out).mono ?_; rintro e w2 ⟨rfl, hb2⟩; have HB2 := Lib.hid (below_then HB1.out hb2); clear e0 e1 e2 e3 e4 e5 ez el; obtain ⟨e0, e1, e2, e3, e4, e5, ez, el⟩ := ncells (nb_below HX.out HB2.out); clear hb2) | (go_at_call 86; refine (H3.out _ HB2.out).mono ?_; rintro e w3 ⟨rfl, hb3⟩; have HB3 := Lib.hid (below_then HB2.out hb3); clear e0 e1 e2 e3 e4 e5 ez el; obtain ⟨e0, e1, e2, e3, e4, e5, ez, el⟩ := ncells (nb_below HX.out HB3.out); clear hb3) | (go_at_call 74; refine (H4.out _ HB3.out).mono ?_; rintro e w4 ⟨rfl, hb4⟩; have HB4 := Lib.hid (below_then HB3.out hb4); clear hb4))
    go_ret
    exact ⟨ret_bool (by simp), below_then HB.out HB4.out⟩
theorem okField (x : Tree) : FnP 66 (RR 3) x := by
 intro r w hG hm hc
 have hrow := heap_alloc_new (w.alloc (boxC r)) (.cells #[.func (.func 71) #[] #[]] 64)
 rw [World.size_alloc] at hrow
 have hG2 := (hG.alloc (boxC r)).alloc (.cells #[.func (.func 71) #[] #[]] 64)
 have hp := aNamed x r ((w.alloc (boxC r)).alloc (.cells #[.func (.func 71) #[] #[]] 64)) (hm.boxed2 _ _) 4 (some ⟨w.heap.size + 1, 0, none⟩) 1 1 [RR 8] (SortsAt.lit (vs := [.func (.func 71) #[] #[]]) hrow ⟨fun y hy => (okAny y).sort (fun args w => by rfl) hG2 (kid_costT hc hy), trivial⟩) hc
 have HB := Lib.hid (below2 w (boxC r) (.cells #[.func (.func 71) #[] #[]] 64))
 have e : (nameV x.name && decide (x.kind = 4) && allP [RR 8] x.kids) = RR 3 x := by
  obtain ⟨k, f, e, a, n, l⟩ := x
  show (nameV n && decide (k = 4) && allP [RR 8] l) = (isR nameV tokT (.mk k f e a n l) 3)
  rw [isR_3]
 rw [e] at hp
 have HP := Lib.hid hp
 generalize RR 3 x = B at *
 clear hG hm hc hp e hrow hG2
 unfold RN.val at HP ⊢
 go_enter Tryz.func66, Tryz.ntmps66
 go_wp2_with (go_at_call 58; refine HP.out.mono ?_; rintro e w2 ⟨rfl, hb2⟩)
 go_ret
 exact ⟨rfl, below_then HB.out hb2⟩
theorem okParam (x : Tree) : FnP 84 (RR 4) x := by
 intro r w hG hm hc
 have hrow := heap_alloc_new (w.alloc (boxC r)) (.cells #[.func (.func 71) #[] #[]] 64)
 rw [World.size_alloc] at hrow
 have hG2 := (hG.alloc (boxC r)).alloc (.cells #[.func (.func 71) #[] #[]] 64)
 have hp := aNamed x r ((w.alloc (boxC r)).alloc (.cells #[.func (.func 71) #[] #[]] 64)) (hm.boxed2 _ _) 7 (some ⟨w.heap.size + 1, 0, none⟩) 1 1 [RR 8] (SortsAt.lit (vs := [.func (.func 71) #[] #[]]) hrow ⟨fun y hy => (okAny y).sort (fun args w => by rfl) hG2 (kid_costT hc hy), trivial⟩) hc
 have HB := Lib.hid (below2 w (boxC r) (.cells #[.func (.func 71) #[] #[]] 64))
 have e : (nameV x.name && decide (x.kind = 7) && allP [RR 8] x.kids) = RR 4 x := by
  obtain ⟨k, f, e, a, n, l⟩ := x
  show (nameV n && decide (k = 7) && allP [RR 8] l) = (isR nameV tokT (.mk k f e a n l) 4)
  rw [isR_4]
 rw [e] at hp
 have HP := Lib.hid hp
 generalize RR 4 x = B at *
 clear hG hm hc hp e hrow hG2
 unfold RN.val at HP ⊢
 go_enter Tryz.func84, Tryz.ntmps84
 go_wp2_with (go_at_call 58; refine HP.out.mono ?_; rintro e w2 ⟨rfl, hb2⟩)
 go_ret
 exact ⟨rfl, below_then HB.out hb2⟩
theorem okOwnParam (x : Tree) : FnP 68 (RR 5) x := by
 intro r w hG hm hc
 have hrow := heap_alloc_new (w.alloc (boxC r)) (.cells #[.func (.func 82) #[] #[]] 64)
 rw [World.size_alloc] at hrow
 have hG2 := (hG.alloc (boxC r)).alloc (.cells #[.func (.func 82) #[] #[]] 64)
 have hp := aNamed x r ((w.alloc (boxC r)).alloc (.cells #[.func (.func 82) #[] #[]] 64)) (hm.boxed2 _ _) 7 (some ⟨w.heap.size + 1, 0, none⟩) 1 1 [RR 7] (SortsAt.lit (vs := [.func (.func 82) #[] #[]]) hrow ⟨fun y hy => (okOwn y).sort (fun args w => by rfl) hG2 (kid_costT hc hy), trivial⟩) hc
 have HB := Lib.hid (below2 w (boxC r) (.cells #[.func (.func 82) #[] #[]] 64))
 have e : (nameV x.name && decide (x.kind = 7) && allP [RR 7] x.kids) = RR 5 x := by
  obtain ⟨k, f, e, a, n, l⟩ := x
  show (nameV n && decide (k = 7) && allP [RR 7] l) = (isR nameV tokT (.mk k f e a n l) 5)
  rw [isR_5]
 rw [e] at hp
 have HP := Lib.hid hp
 generalize RR 5 x = B at *
 clear hG hm hc hp e hrow hG2
 unfold RN.val at HP ⊢
 go_enter Tryz.func68, Tryz.ntmps68
 go_wp2_with (go_at_call 58; refine HP.out.mono ?_; rintro e w2 ⟨rfl, hb2⟩)
 go_ret
 exact ⟨rfl, below_then HB.out hb2⟩
theorem okImport (x : Tree) : FnP 57 (RR 1) x := by
 intro r w hG hm hc
 have hp := aNamed x r (w.alloc (boxC r)) (hm.boxed (Nat.le_refl _) _) 2 none 0 0 [] (.nil_ _ _ _) hc
 have HB := Lib.hid ((Below.refl w.heap.size w).alloc (Nat.le_refl _) (boxC r))
 have e : (nameV x.name && decide (x.kind = 2) && allP [] x.kids) = RR 1 x := by
  obtain ⟨k, f, e, a, n, l⟩ := x
  show (nameV n && decide (k = 2) && allP [] l) = (isR nameV tokT (.mk k f e a n l) 1)
  rw [isR_1n, allP_nil]
 rw [e] at hp
 have HP := Lib.hid hp
 generalize RR 1 x = B at *
 clear hG hm hc hp e
 unfold RN.val at HP ⊢
 go_enter Tryz.func57, Tryz.ntmps57
 go_wp2_with (go_at_call 58; refine HP.out.mono ?_; rintro e w2 ⟨rfl, hb2⟩)
 go_ret
 exact ⟨rfl, below_then HB.out hb2⟩
theorem zR (w : World) : Below w.heap.size w w := Below.refl _ _
theorem zA {a X : World} {o : Obj} (h : Below a.heap.size a X) : Below a.heap.size a (X.alloc o) := h.alloc h.size o
theorem zD {a X : World} (h : Below a.heap.size a X) : Below a.heap.size a X.drew := h.drew
theorem zT {a X Y : World} (h : Below a.heap.size a X) (h2 : Below X.heap.size X Y) : Below a.heap.size a Y := h.trans (h2.mono h.size)
theorem zSa {α : Type} (l : List α) (i : Nat) (x : α) : l.toArray.setIfInBounds i x = (l.set i x).toArray := by simp
theorem zSb {α : Type} (l : List α) (x y : α) : (x :: l).set 0 y = y :: l := rfl
theorem zSc {α : Type} (l : List α) (n : Nat) (x y : α) : (x :: l).set (n + 1) y = x :: l.set n y := rfl
def zS (W0 : World) (b : Nat) (r : RN) (w : World) : Prop := Below W0.heap.size W0 w ∧ w.cell? ⟨b, 0, none⟩ = some (.int .i64 r.kind) ∧ w.cell? ⟨b, 1, none⟩ = some (.int .i64 r.fr) ∧ w.cell? ⟨b, 2, none⟩ = some (.int .i64 r.en) ∧ w.cell? ⟨b, 3, none⟩ = some (.int .i64 r.at_) ∧ w.cell? ⟨b, 4, none⟩ = some (.string r.name) ∧ w.cell? ⟨b, 5, none⟩ = some (.slice r.A r.n r.cap)
def zE (W0 : World) (b : Nat) (r : RN) (E : World → Prop) (w : World) : Prop := Below W0.heap.size W0 w ∧ w.cell? ⟨b, 0, none⟩ = some (.int .i64 r.kind) ∧ w.cell? ⟨b, 1, none⟩ = some (.int .i64 r.fr) ∧ w.cell? ⟨b, 2, none⟩ = some (.int .i64 r.en) ∧ w.cell? ⟨b, 3, none⟩ = some (.int .i64 r.at_) ∧ w.cell? ⟨b, 4, none⟩ = some (.string r.name) ∧ w.cell? ⟨b, 5, none⟩ = some (.slice r.A r.n r.cap) ∧ E w
def zW (W0 : World) (b o : Nat) (r : RN) (b' o' : Nat) (r' : RN) (w : World) : Prop := Below W0.heap.size W0 w ∧ (w.cell? ⟨b, o, none⟩ = some (.int .i64 r.kind) ∧ w.cell? ⟨b, o + 1, none⟩ = some (.int .i64 r.fr) ∧ w.cell? ⟨b, o + 2, none⟩ = some (.int .i64 r.en) ∧ w.cell? ⟨b, o + 3, none⟩ = some (.int .i64 r.at_) ∧ w.cell? ⟨b, o + 4, none⟩ = some (.string r.name) ∧ w.cell? ⟨b, o + 5, none⟩ = some (.slice r.A r.n r.cap)) ∧ w.cell? ⟨b', o', none⟩ = some (.int .i64 r'.kind) ∧ w.cell? ⟨b', o' + 1, none⟩ = some (.int .i64 r'.fr) ∧ w.cell? ⟨b', o' + 2, none⟩ = some (.int .i64 r'.en) ∧ w.cell? ⟨b', o' + 3, none⟩ = some (.int .i64 r'.at_) ∧ w.cell? ⟨b', o' + 4, none⟩ = some (.string r'.name) ∧ w.cell? ⟨b', o' + 5, none⟩ = some (.slice r'.A r'.n r'.cap)
section
variable {P : Program} {ops : Array Oper} {Q : Exit → Act → World → Prop} {md : Region.Mode} {S : World → Prop} {oi : Oper} {rest : List Oper} {fuel : Nat} {listed : Array Bool} {a : Act} {w : World}
theorem zAt {i : Nat} (hi : ops.toList.drop i = oi :: rest) : ops[i]? = some oi := by
 have h : (ops.toList.drop i)[0]? = some oi := by rw [hi]; rfl
 rw [List.getElem?_drop, Nat.add_zero, Array.getElem?_toList] at h
 exact h
theorem zTk (i : Nat) {v : Value} {a' : Act} (hi : ops.toList.drop i = oi :: rest := by rfl) (hk : (Region.noSelect ops && Region.free md ops listed i && (Region.ready md ops listed).contains i) = true := by kernel_rfl) (hQ : ∀ c a w, Q (.panic c) (a.put oi.dst v) w → Q (.panic c) a w := by exact fun _ _ _ h => h)
  (hw : Region.wanted oi (yielded ops a.tmps) = true := by rfl) (hS : S w := by assumption) (hy : ∀ w, S w → (execOp a.eval oi).run P w = .ok (.value v) w := by intro _ hS; (try dsimp only [zS, zE, zW] at hS); go_simp; all_goals with_reducible rfl) (ha : a.put oi.dst v = a' := by (try simp only [Act.put, zSa, zSb, zSc]); first | done | rfl)
  (h : wpAnyH P md ops Q S fuel (listed.setIfInBounds i true) a' w) : wpAnyH P md ops Q S (fuel + 1) listed a w := by
 simp only [Bool.and_eq_true] at hk
 subst ha
 exact wpAnyH_take (zAt hi) hk.1.1 hk.1.2 hk.2 hQ (Or.inl ⟨hw, hy⟩) hS h
theorem zTn (i : Nat) {a' : Act} (hi : ops.toList.drop i = oi :: rest := by rfl) (hk : (Region.noSelect ops && Region.free md ops listed i && (Region.ready md ops listed).contains i) = true := by kernel_rfl) (hQ : ∀ c a w, Q (.panic c) (a.put oi.dst undef) w → Q (.panic c) a w := by exact fun _ _ _ h => h)
  (hw : Region.wanted oi (yielded ops a.tmps) = false := by rfl) (hS : S w := by assumption) (ha : a.put oi.dst undef = a' := by (try simp only [Act.put, zSa, zSb, zSc]); first | done | rfl) (h : wpAnyH P md ops Q S fuel (listed.setIfInBounds i true) a' w) : wpAnyH P md ops Q S (fuel + 1) listed a w := by
 simp only [Bool.and_eq_true] at hk
 subst ha
 exact wpAnyH_take (zAt hi) hk.1.1 hk.1.2 hk.2 hQ (Or.inr ⟨hw, rfl⟩) hS h
theorem zRd (i : Nat) (hr : Region.ready md ops listed = [i] := by kernel_rfl) (hi : ops.toList.drop i = oi :: rest := by rfl)
  (h : ∀ K' : Act → World → Prop, Shut (∀ a w, S w → (S w → wpAnyH P md ops Q S fuel (listed.setIfInBounds i true) a w) → K' a w) → if Region.wanted oi (yielded ops a.tmps) = true then Oper.wp P oi a w K' Q else K' (a.put oi.dst undef) w) :
  wpAnyH P md ops Q S (fuel + 1) listed a w :=
 wpAnyH_ready hr (by simp) (AllReadyH.cons (zAt hi) h AllReadyH.nil)
theorem zKK {a' : Act} {W0 : World} {K' : Act → World → Prop} (hKK : Shut (∀ a w, S w → (S w → wpAnyH P md ops Q S fuel listed a w) → K' a w)) (HKP : Hid (∀ W', Below W0.heap.size W0 W' → S W'))
  (h : S w → wpAnyH P md ops Q S fuel listed a' w) (hb : Below W0.heap.size W0 w := by repeat (first | exact zR _ | assumption | apply zA | apply zD | refine zT ?_ (by assumption))) (ha : a = a' := by (try simp only [Act.put, zSa, zSb, zSc]); first | done | rfl) : K' a w := by
 subst ha
 exact hKK.out _ _ (HKP.out _ hb) h
theorem zHD {W0 : World} {id : Nat} (HKP : Hid (∀ W', Below W0.heap.size W0 W' → S W')) (h : S w.drew → wpAnyH P .any ops Q S ops.size (Array.replicate ops.size false) a w.drew)
  (hm : P.follows .mixedOrders = true := by kernel_rfl) (hb : Below W0.heap.size W0 w.drew := by repeat (first | exact zR _ | assumption | apply zA | apply zD | refine zT ?_ (by assumption))) : (Code.region id ops true).wp P Q a w := wp_region_held_drew hm (HKP.out _ hb) h
end
theorem zb {p : World → Prop} {W0 W : World} (H : Hid (∀ W, Below W0.heap.size W0 W → p W)) (hb : Below W0.heap.size W0 W := by repeat (first | exact zR _ | assumption | apply zA | apply zD | refine zT ?_ (by assumption))) : p W := H.out W hb
theorem zW.of {W0 w : World} {b o b' o' : Nat} {r r' : RN} (hb : b < W0.heap.size) (hb' : b' < W0.heap.size) (h : (W0.cell? ⟨b, o, none⟩ = some (.int .i64 r.kind) ∧ W0.cell? ⟨b, o + 1, none⟩ = some (.int .i64 r.fr) ∧ W0.cell? ⟨b, o + 2, none⟩ = some (.int .i64 r.en) ∧ W0.cell? ⟨b, o + 3, none⟩ = some (.int .i64 r.at_) ∧ W0.cell? ⟨b, o + 4, none⟩ = some (.string r.name) ∧ W0.cell? ⟨b, o + 5, none⟩ = some (.slice r.A r.n r.cap))) (h' : W0.cell? ⟨b', o', none⟩ = some (.int .i64 r'.kind) ∧ W0.cell? ⟨b', o' + 1, none⟩ = some (.int .i64 r'.fr) ∧ W0.cell? ⟨b', o' + 2, none⟩ = some (.int .i64 r'.en) ∧ W0.cell? ⟨b', o' + 3, none⟩ = some (.int .i64 r'.at_) ∧ W0.cell? ⟨b', o' + 4, none⟩ = some (.string r'.name) ∧ W0.cell? ⟨b', o' + 5, none⟩ = some (.slice r'.A r'.n r'.cap)) (hB : Below W0.heap.size W0 w := by repeat (first | exact zR _ | assumption | apply zA | apply zD | refine zT ?_ (by assumption))) : zW W0 b o r b' o' r' w := by
 obtain ⟨a0, a1, a2, a3, a4, a5⟩ := h
 obtain ⟨b0, b1, b2, b3, b4, b5⟩ := h'
 exact ⟨hB, ⟨(hB.cell hb).trans a0, (hB.cell hb).trans a1, (hB.cell hb).trans a2, (hB.cell hb).trans a3, (hB.cell hb).trans a4, (hB.cell hb).trans a5⟩, (hB.cell hb').trans b0, (hB.cell hb').trans b1, (hB.cell hb').trans b2, (hB.cell hb').trans b3, (hB.cell hb').trans b4, (hB.cell hb').trans b5⟩
theorem bel_alloc {a X : World} {o : Obj} (h : Below a.heap.size a X) : Below a.heap.size a (X.alloc o) := h.alloc h.size o
theorem bel_drew {a X : World} (h : Below a.heap.size a X) : Below a.heap.size a X.drew := h.drew
theorem box_keep {w0 W' : World} {b : Nat} {r : RN} (hx : w0.heap[b]? = some (boxC r)) (hb : Below w0.heap.size w0 W' := by repeat (first | exact zR _ | assumption | apply zA | apply zD | refine zT ?_ (by assumption))) :
  Below w0.heap.size w0 W' ∧ W'.cell? ⟨b, 0, none⟩ = some (.int .i64 r.kind) ∧ W'.cell? ⟨b, 1, none⟩ = some (.int .i64 r.fr) ∧ W'.cell? ⟨b, 2, none⟩ = some (.int .i64 r.en) ∧ W'.cell? ⟨b, 3, none⟩ = some (.int .i64 r.at_) ∧ W'.cell? ⟨b, 4, none⟩ = some (.string r.name) ∧ W'.cell? ⟨b, 5, none⟩ = some (.slice r.A r.n r.cap) := by
 obtain ⟨e0, e1, e2, e3, e4, e5, _, _⟩ := ncells (nb_below hx hb)
 exact ⟨hb, e0, e1, e2, e3, e4, e5⟩
theorem okParams (x : Tree) : FnP 70 (RR 6) x := by
 intro r w hG hm hc
 have hG0 := hG.alloc (boxC r)
 have hm0 := hm.boxed (Nat.le_refl _) (boxC r)
 have HX := Lib.hid (heap_alloc_new w (boxC r))
 have HB := Lib.hid ((Below.refl w.heap.size w).alloc (Nat.le_refl _) (boxC r))
 obtain ⟨W0, hW0⟩ : ∃ W0, w.alloc (boxC r) = W0 := ⟨_, rfl⟩
 rw [hW0] at hG0 hm0 HX HB
 have HA := Lib.hid (fun W (hb : Below W0.heap.size W0 W) => aAll x r W (hm0.after (Nat.le_refl _) hb) 84 #[] hc)
 have HP := Lib.hid (fun W (hb : Below W0.heap.size W0 W) g (hg : W.heap[g]? = some (.cells (List.replicate x.kids.length (.func (.func 84) #[] #[])).toArray 64 (0, 0))) => aPlain x r W (hm0.after (Nat.le_refl _) hb) 6 (some ⟨g, 0, none⟩) x.kids.length x.kids.length (List.replicate x.kids.length (RR 4))
  (SortsAt.rep hg (fun y hy => (okParam y).sort (fun args w => by rfl) (hG0.below hb) (kid_costT hc hy))) hc)
 have e : (x.name.isEmpty && decide (x.kind = 6) && allP (List.replicate x.kids.length (RR 4)) x.kids) = RR 6 x := by
  obtain ⟨k, f, e, a, n, l⟩ := x
  show (n.isEmpty && decide (k = 6) && allP (List.replicate l.length (RR 4)) l) = isR nameV tokT (.mk k f e a n l) 6
  rw [isR_6, allP_rep]
 rw [e] at HP
 generalize RR 6 x = B at *
 clear hG hm hc e hG0 hm0
 unfold RN.val at HA HP ⊢
 go_enter Tryz.func70, Tryz.ntmps70
 go_wp2_with fail
 rw [show w.alloc (.cells #[.int .i64 r.kind, .int .i64 r.fr, .int .i64 r.en, .int .i64 r.at_, .string r.name, .slice r.A r.n r.cap] 24) = W0 from hW0]
 go_region_held3 (fun w' => Below W0.heap.size W0 w' ∧ w'.cell? ⟨w.heap.size, 0, none⟩ = some (.int .i64 r.kind) ∧ w'.cell? ⟨w.heap.size, 1, none⟩ = some (.int .i64 r.fr) ∧ w'.cell? ⟨w.heap.size, 2, none⟩ = some (.int .i64 r.en) ∧ w'.cell? ⟨w.heap.size, 3, none⟩ = some (.int .i64 r.at_) ∧ w'.cell? ⟨w.heap.size, 4, none⟩ = some (.string r.name) ∧ w'.cell? ⟨w.heap.size, 5, none⟩ = some (.slice r.A r.n r.cap))
  (exact box_keep HX.out)
  (first | (go_at_call 55; refine (zb HA).mono ?_; rintro e wA ⟨⟨g, rfl, hg, hrow⟩, hbA⟩) | (go_at_call 83; refine ((zb HP) _ (by assumption)).mono ?_; rintro e wB ⟨rfl, hbB⟩))
 all_goals (rename_i hH; have HE := below_then HB.out hH.1; clear hH)
 all_goals go_wp2_with fail
 all_goals go_ret
 all_goals exact ⟨rfl, HE⟩
end Go.Proofs.YtacdfjlncfidgaaGreatDoor
