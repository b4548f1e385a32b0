/- A part of what the claim leans on. -/
import Derived.Test.YtacdfjlncfidgaaGreatDoorTA
import Derived.Deep.RegionHeld3
import Derived.BigRegion
import Derived.Test.YtacdfjlncfidgaaGreatDoorRB
namespace Go.Proofs.YtacdfjlncfidgaaGreatDoor
open Go.RowKit
set_option linter.unusedVariables false
set_option linter.unusedSimpArgs false
set_option maxRecDepth 100000
set_option maxHeartbeats 3200000
theorem kid_cost {k f en a : Int} {n : BL} {l : List Tree} {x : Tree} {N : Nat} (h : costT (.mk k f en a n l) ≤ N) (hx : x ∈ l) : costT x ≤ N := by
 have := costL_mem hx
 have e : costT (.mk k f en a n l) = costL l + n.length + 1 := by rw [costT]
 omega
theorem kids_few {k f en a : Int} {n : BL} {l : List Tree} {N : Nat} (h : costT (.mk k f en a n l) ≤ N) : l.length + n.length ≤ N := by
 have := costL_len l
 have e : costT (.mk k f en a n l) = costL l + n.length + 1 := by rw [costT]
 omega
theorem depthL_snoc : ∀ (l : List Tree) (x : Tree), depthL (l ++ [x]) = max (depthL l) (depthV x)
 | [], x => by simp [depthL]
 | t :: l, x => by rw [List.cons_append, depthL, depthL_snoc l x, depthL, Nat.max_assoc]
theorem take_succ_at {α : Type} {l : List α} {j : Nat} {x : α} (h : l[j]? = some x) : l.take (j + 1) = l.take j ++ [x] := by
 rw [List.take_add_one, h]; rfl
def boxC (r : RN) : Obj := .cells #[.int .i64 r.kind, .int .i64 r.fr, .int .i64 r.en, .int .i64 r.at_, .string r.name, .slice r.A r.n r.cap] 24
theorem ncells {w : World} {b : Nat} {T : TypeId} {v0 v1 v2 v3 v4 v5 : Value} (h : w.heap[b]? = some (.cells #[v0, v1, v2, v3, v4, v5] T (0, 0))) :
  w.cell? ⟨b, 0, none⟩ = some v0 ∧ w.cell? ⟨b, 1, none⟩ = some v1 ∧ w.cell? ⟨b, 2, none⟩ = some v2 ∧ w.cell? ⟨b, 3, none⟩ = some v3 ∧ w.cell? ⟨b, 4, none⟩ = some v4 ∧ w.cell? ⟨b, 5, none⟩ = some v5 ∧ (∀ j, w.frozen? ⟨b, j, none⟩ = false) ∧ b < w.heap.size :=
 ⟨by rw [cell_of_row _ _ _ _ _ _ h]; rfl, by rw [cell_of_row _ _ _ _ _ _ h]; rfl, by rw [cell_of_row _ _ _ _ _ _ h]; rfl, by rw [cell_of_row _ _ _ _ _ _ h]; rfl, by rw [cell_of_row _ _ _ _ _ _ h]; rfl, by rw [cell_of_row _ _ _ _ _ _ h]; rfl, fun j => by simp [World.frozen?, h], (Array.getElem?_eq_some_iff.1 h).1⟩
theorem nb_below {w w' : World} {b : Nat} {o : Obj} (h : w.heap[b]? = some o) (hb : Below w.heap.size w w') : w'.heap[b]? = some o := (hb.block b (Array.getElem?_eq_some_iff.1 h).1).trans h
theorem nb_alloc {w : World} {b : Nat} {o o' : Obj} (h : w.heap[b]? = some o) : (w.alloc o').heap[b]? = some o := (Go.heap_alloc_old w o' (Array.getElem?_eq_some_iff.1 h).1).trans h
section
variable {w : World} {B : Nat} {t : Tree} {r : RN}
theorem NodeM.here (h : NodeM w B t r) (hB : B ≤ w.heap.size) : NodeM w w.heap.size t r := h.more hB
theorem NodeM.boxed (h : NodeM w B t r) (hB : B ≤ w.heap.size) (o : Obj) : NodeM (w.alloc o) (w.alloc o).heap.size t r := (h.alloc hB o).more (by rw [World.size_alloc]; omega)
end
mutual
theorem depth_cost : ∀ t : Tree, depthV t ≤ costT t
 | .mk k f e a n l => by
  have := depthL_cost l
  simp only [depthV, costT]
  split <;> omega
theorem depthL_cost : ∀ l : List Tree, depthL l ≤ costL l
 | [] => Nat.le_refl _
 | t :: l => by
  have h1 := depth_cost t
  have h2 := depthL_cost l
  simp only [depthL, costL]; omega
end
theorem costL_take : ∀ (l : List Tree) (j : Nat), costL (l.take j) ≤ costL l
 | [], j => by simp
 | t :: l, 0 => by simp [costL]
 | t :: l, j + 1 => by
  have := costL_take l j
  simp only [List.take_succ_cons, costL]; omega
theorem depth_take {k f en a : Int} {n : BL} {l : List Tree} {N : Nat} (h : costT (.mk k f en a n l) ≤ N) (j : Nat) : depthL (l.take j) ≤ N := by
 have h1 := depthL_cost (l.take j)
 have h2 := costL_take l j
 have e : costT (.mk k f en a n l) = costL l + n.length + 1 := by rw [costT]
 omega
theorem aDepth : ∀ (t : Tree) (r : RN) (w : World), NodeM w w.heap.size t r → costT t ≤ 3000 →
  Calls Tryz.prog 14 #[r.val] w fun e w' => e = .returned (.int .i64 (depthV t)) ∧ Below w.heap.size w w' := by
 refine tree_ind (fun k f en a n l ih r w hm hc => ?_)
 obtain ⟨A, cap, rs, rfl, hr, hl, hk⟩ := hm.open_
 have hlen := kids_few hc
 unfold RN.val
 by_cases h0 : k = 0
 · subst h0
   have HV := Lib.hid (show depthV (.mk 0 f en a n l) = 0 by simp [depthV])
   have HB := Lib.hid ((Below.refl w.heap.size w).alloc (Nat.le_refl _) (.cells #[.int .i64 0, .int .i64 f, .int .i64 en, .int .i64 a, .string (toBA n), .slice A l.length cap] 24))
   clear hm hr hk ih
   go_enter Tryz.func14, Tryz.ntmps14
   go_wp2_with fail
   go_ret
   exact ⟨by rw [HV.out]; rfl, HB.out⟩
 · have b0 : (k == 0) = false := beq_eq_false_iff_ne.2 h0
   have HV := Lib.hid (show depthV (.mk k f en a n l) = depthL l + 1 by simp [depthV, h0])
   have HB := Lib.hid ((Below.refl w.heap.size w).alloc (Nat.le_refl _) (.cells #[.int .i64 k, .int .i64 f, .int .i64 en, .int .i64 a, .string (toBA n), .slice A l.length cap] 24))
   have HK := Lib.hid (And.intro hr hk)
   have HI := Lib.hid ih
   have HC := Lib.hid hc
   have HL := Lib.hid hl
   clear hm hr hk ih hc hl
   go_enter Tryz.func14, Tryz.ntmps14
   go_wp2_with fail
   go_loopw [3, 12] (fun d i wr => ∃ j : Nat, j ≤ l.length ∧ i = .int .i64 j ∧ d = .int .i64 (depthL (l.take j)) ∧ Below w.heap.size w wr) (fun _ i _ => l.length - (intOf i).toNat)
   case atStart => exact ⟨0, Nat.zero_le _, rfl, rfl, HB.out⟩
   case round =>
    obtain ⟨j, hj, rfl, rfl, hb⟩ := hrel
    have HB1 := Lib.hid hb
    clear hb
    by_cases hlt : j < l.length
    · obtain ⟨x, hx⟩ : ∃ x, l[j]? = some x := ⟨_, List.getElem?_eq_getElem hlt⟩
      obtain ⟨b, off, rx, rfl, hbb, hrx, hmx, c0, c1, c2, c3, c4, c5⟩ := kid_at (w := wr) (HK.out.1.keep fun p hp => HB1.out.cell (by omega)) HL.out (fun i y ry hy hry => (HK.out.2 i y ry hy hry).under HB1.out (Nat.le_refl _)) hx
      have hcx := kid_cost HC.out (List.mem_of_getElem? hx)
      have HI1 := Lib.hid (fun W hm => HI.out x (List.mem_of_getElem? hx) rx W hm hcx)
      unfold RN.val at HI1
      have HM := Lib.hid hmx
      clear hmx hrx
      go_wp2_with (first | (go_at_call 14; refine (HI1.out _ (HM.out.boxed HB1.out.size _)).mono ?_; rintro e w2 ⟨rfl, hb2⟩; have HB2 := Lib.hid (below_then (HB1.out.alloc HB1.out.size _) hb2); clear hb2))
      go_roundw
      case rel => exact ⟨j + 1, by omega, by go_num, by rw [take_succ_at hx, depthL_snoc]; go_num, HB2.out⟩
      case measure => simp only [intOf]; omega
    · have hdb := depth_take HC.out j
      have HV2 := Lib.hid (show depthV (.mk k f en a n l) = depthL (l.take j) + 1 by rw [HV.out, List.take_of_length_le (by omega)])
      go_wp2_with fail
      go_ret
      refine ⟨by rw [HV2.out]; go_num, HB1.out⟩
mutual
def sizeV (left : Int) : Tree → Int
 | .mk _ _ _ _ n l => sizeVL (left - 1 - n.length) l
def sizeVL (left : Int) : List Tree → Int
 | [] => left
 | t :: l => if 0 < left then sizeVL (sizeV left t) l else left
end
theorem sizeVL_stop {left : Int} (h : ¬ 0 < left) (l : List Tree) : sizeVL left l = left := by
 cases l with
 | nil => rfl
 | cons t l => rw [sizeVL, if_neg h]
mutual
theorem size_few (left : Int) : ∀ t : Tree, 0 < sizeV left t → sizeV left t = left - costT t
 | .mk k f e a n l => by
  intro h
  rw [sizeV] at h ⊢
  rw [size_fewL _ l h, costT]; omega
theorem size_fewL (left : Int) : ∀ l : List Tree, 0 < sizeVL left l → sizeVL left l = left - costL l
 | [] => fun _ => by simp [sizeVL, costL]
 | t :: l => by
  intro h
  rw [sizeVL] at h ⊢
  by_cases h0 : 0 < left
  · rw [if_pos h0] at h ⊢
    by_cases h1 : 0 < sizeV left t
    · rw [size_fewL _ l h, size_few left t h1, costL]; omega
    · rw [sizeVL_stop h1] at h; exact absurd h h1
  · rw [if_neg h0] at h; exact absurd h h0
end
theorem few_cost {t : Tree} (h : 0 < sizeV 3000 t) : costT t ≤ 3000 := by
 have := size_few 3000 t h; omega
mutual
theorem size_lo (left : Int) : ∀ t : Tree, fineT t → 0 < left → - (maxLen : Int) ≤ sizeV left t ∧ sizeV left t ≤ left
 | .mk k f e a n l => fun hf h => by
  have hn : n.length ≤ maxLen := hf.1
  rw [sizeV]
  exact size_loL _ left l hf.2.2 (by omega) (by omega)
theorem size_loL (left hi : Int) : ∀ l : List Tree, fineL l → - (maxLen : Int) ≤ left → left ≤ hi → - (maxLen : Int) ≤ sizeVL left l ∧ sizeVL left l ≤ hi
 | [] => fun _ h h2 => ⟨h, h2⟩
 | t :: l => fun hf h h2 => by
  rw [sizeVL]
  by_cases h0 : 0 < left
  · rw [if_pos h0]
    have := size_lo left t hf.1 h0
    exact size_loL _ hi l hf.2 this.1 (by omega)
  · rw [if_neg h0]; exact ⟨h, h2⟩
end
theorem rSize : ∀ (t : Tree) (r : RN) (w : World) (left : Int), NodeM w w.heap.size t r → fineT t → 0 < left → left ≤ 3000 →
  Calls Tryz.prog 39 #[r.val, .int .i64 left] w fun e w' => e = .returned (.int .i64 (sizeV left t)) ∧ Below w.heap.size w w' := by
 refine tree_ind (fun k f en a n l ih r w left hm hf hl0 hl1 => ?_)
 obtain ⟨A, cap, rs, rfl, hr, hl, hk⟩ := hm.open_
 have hn : n.length ≤ maxLen := hf.1
 have hll : l.length ≤ maxLen := hf.2.1
 have hlf : fineL l := hf.2.2
 have hml : maxLen = 9223372036854775807 := rfl
 have hnl : (toBA n).size = n.length := by show n.toArray.size = _; simp
 unfold RN.val
 have HB := Lib.hid ((Below.refl w.heap.size w).alloc (Nat.le_refl _) (.cells #[.int .i64 k, .int .i64 f, .int .i64 en, .int .i64 a, .string (toBA n), .slice A l.length cap] 24))
 have HK := Lib.hid (And.intro hr hk)
 have HI := Lib.hid ih
 have HL := Lib.hid hl
 have HF := Lib.hid hlf
 have HV := Lib.hid (show sizeV left (.mk k f en a n l) = sizeVL (left - 1 - n.length) l by rw [sizeV])
 clear hm hr hk ih hl hf hlf
 go_enter Tryz.func39, Tryz.ntmps39
 go_wp2_with fail
 go_loopw [1, 5] (fun d i wr => ∃ (j : Nat) (m : Int), j ≤ l.length ∧ i = .int .i64 j ∧ d = .int .i64 m ∧ - (maxLen : Int) ≤ m ∧ m ≤ 3000 ∧ sizeV left (.mk k f en a n l) = sizeVL m (l.drop j) ∧ wr.heap[w.heap.size]? = some (boxC ⟨k, f, en, a, toBA n, A, l.length, cap⟩) ∧ Below w.heap.size w wr) (fun _ i _ => l.length - (intOf i).toNat)
 case atStart => exact ⟨0, left - 1 - n.length, Nat.zero_le _, rfl, by go_num, by omega, by omega, HV.out, heap_alloc_new _ _, HB.out⟩
 case round =>
  obtain ⟨j, m, hj, rfl, rfl, hm0, hm1, hsv, hbox, hb⟩ := hrel
  have HBX := Lib.hid hbox
  obtain ⟨e0, e1, e2, e3, e4, e5, ez, el⟩ := ncells hbox
  have HB1 := Lib.hid hb
  have HS := Lib.hid hsv
  clear hbox hb hsv
  by_cases hlt : j < l.length
  · by_cases hpos : 0 < m
    · obtain ⟨x, hx⟩ : ∃ x, l[j]? = some x := ⟨_, List.getElem?_eq_getElem hlt⟩
      obtain ⟨b, off, rx, rfl, hbb, hrx, hmx, c0, c1, c2, c3, c4, c5⟩ := kid_at (w := wr) (HK.out.1.keep fun p hp => HB1.out.cell (by omega)) HL.out (fun i y ry hy hry => (HK.out.2 i y ry hy hry).under HB1.out (Nat.le_refl _)) hx
      have hfx := fineL_mem HF.out (List.mem_of_getElem? hx)
      have HI1 := Lib.hid (HI.out x (List.mem_of_getElem? hx) rx wr m (hmx.here HB1.out.size) hfx hpos hm1)
      unfold RN.val at HI1
      have hlo := size_lo m x hfx hpos
      have HX := Lib.hid (show sizeVL m (l.drop j) = sizeVL (sizeV m x) (l.drop (j + 1)) by
       have hd : l.drop j = x :: l.drop (j + 1) := by
        rw [List.drop_eq_getElem_cons hlt]
        have := List.getElem?_eq_getElem hlt
        rw [hx] at this; cases this; rfl
       rw [hd, sizeVL, if_pos hpos])
      clear hmx hrx hx hfx
      generalize sizeV m x = m2 at *
      go_wp2_with (first | (go_at_call 39; refine HI1.out.mono ?_; rintro e w2 ⟨rfl, hb2⟩; have HB2 := Lib.hid (And.intro (nb_below HBX.out hb2) (below_then HB1.out hb2)); clear hb2))
      go_roundw
      case rel => exact ⟨j + 1, m2, by omega, by go_num, rfl, by omega, by omega, by rw [HS.out, HX.out], HB2.out.1, HB2.out.2⟩
      case measure => simp only [intOf]; omega
    · have HV2 := Lib.hid (show sizeV left (.mk k f en a n l) = m by rw [HS.out, sizeVL_stop hpos])
      go_wp2_with fail
      go_ret
      exact ⟨by rw [HV2.out]; rfl, HB1.out⟩
  · have HV2 := Lib.hid (show sizeV left (.mk k f en a n l) = m by rw [HS.out, List.drop_of_length_le (by omega)]; rfl)
    go_wp2_with fail
    go_ret
    exact ⟨by rw [HV2.out]; rfl, HB1.out⟩
def KidsM (w : World) (B : Nat) (A : Option Addr) (l : List Tree) : Prop :=
 ∃ rs, RowOf RN.cells 6 w B A rs ∧ rs.length = l.length ∧ ∀ (i : Nat) (x : Tree) (r : RN), l[i]? = some x → rs[i]? = some r → NodeM w B x r
section
variable {w w' : World} {B B' : Nat} {A : Option Addr} {l : List Tree}
theorem NodeM.open2 {k f en a : Int} {n : BL} {r : RN} (h : NodeM w B (.mk k f en a n l) r) : ∃ A cap, r = ⟨k, f, en, a, toBA n, A, l.length, cap⟩ ∧ KidsM w B A l := by
 obtain ⟨A, cap, rs, rfl, hr, hl, hk⟩ := h.open_
 exact ⟨A, cap, rfl, rs, hr, hl, hk⟩
theorem KidsM.later (h : KidsM w B A l) (hb : Below B' w w') (hB : B ≤ B') : KidsM w' B A l := by
 obtain ⟨rs, hr, hl, hk⟩ := h
 exact ⟨rs, hr.keep fun p hp => hb.cell (by omega), hl, fun i x r hx hrx => (hk i x r hx hrx).under hb hB⟩
theorem KidsM.more (h : KidsM w B A l) (hB : B ≤ B') : KidsM w B' A l := by
 obtain ⟨rs, hr, hl, hk⟩ := h
 exact ⟨rs, hr.more hB, hl, fun i x r hx hrx => (hk i x r hx hrx).more hB⟩
theorem KidsM.alloc (h : KidsM w B A l) (hB : B ≤ w.heap.size) (o : Obj) : KidsM (w.alloc o) B A l :=
 h.later ((Below.refl B w).alloc hB o) (Nat.le_refl _)
theorem KidsM.after (h : KidsM w B A l) (hB : B ≤ w.heap.size) (hb : Below w.heap.size w w') : KidsM w' w'.heap.size A l := (h.later hb hB).more (Nat.le_trans hB hb.size)
theorem KidsM.at (h : KidsM w B A l) {i : Nat} {x : Tree} (hx : l[i]? = some x) : ∃ b off rx, A = some ⟨b, off, none⟩ ∧ b < B ∧ NodeM w B x rx ∧
      w.cell? ⟨b, off + i * 6, none⟩ = some (.int .i64 rx.kind) ∧ w.cell? ⟨b, off + i * 6 + 1, none⟩ = some (.int .i64 rx.fr) ∧ w.cell? ⟨b, off + i * 6 + 2, none⟩ = some (.int .i64 rx.en) ∧
      w.cell? ⟨b, off + i * 6 + 3, none⟩ = some (.int .i64 rx.at_) ∧ w.cell? ⟨b, off + i * 6 + 4, none⟩ = some (.string rx.name) ∧ w.cell? ⟨b, off + i * 6 + 5, none⟩ = some (.slice rx.A rx.n rx.cap) := by
 obtain ⟨rs, hr, hl, hk⟩ := h
 obtain ⟨b, off, rx, hA, hb, _, hm, h⟩ := kid_at hr hl hk hx
 exact ⟨b, off, rx, hA, hb, hm, h⟩
theorem KidsM.node (h : KidsM w B A l) (k f en a : Int) (n : BL) (cap : Nat) : NodeM w B (.mk k f en a n l) ⟨k, f, en, a, toBA n, A, l.length, cap⟩ := by
 obtain ⟨rs, hr, hl, hk⟩ := h
 exact .mk k f en a n l A cap rs hr hl hk
end
theorem NodeM.boxed2 {w : World} {t : Tree} {r : RN} (h : NodeM w w.heap.size t r) (o o' : Obj) : NodeM ((w.alloc o).alloc o') ((w.alloc o).alloc o').heap.size t r := (h.boxed (Nat.le_refl _) o).boxed (Nat.le_refl _) o'
theorem drop_at_T {α : Type} {l : List α} {j : Nat} {x : α} (h : l[j]? = some x) : l.drop j = x :: l.drop (j + 1) := by
 have hlt : j < l.length := (List.getElem?_eq_some_iff.1 h).1
 rw [List.drop_eq_getElem_cons hlt]
 have := List.getElem?_eq_getElem hlt
 rw [h] at this; cases this; rfl
theorem equalFunc (l m : List Tree) (A A' : Option Addr) (cap cap' : Nat) (w : World) (hl : l.length ≤ 3000) (h1 : KidsM w w.heap.size A l) (h2 : KidsM w w.heap.size A' m)
  (hS : ∀ x ∈ l, ∀ (y : Tree) (rx ry : RN) (W : World), NodeM W W.heap.size x rx → NodeM W W.heap.size y ry → Calls Tryz.prog 17 #[rx.val, ry.val] W fun e w' => e = .returned (.bool (sameV x y)) ∧ Below W.heap.size W w') :
  Calls Tryz.prog 47 #[.slice A l.length cap, .slice A' m.length cap', .func (.func 17) #[] #[]] w fun e w' => e = .returned (.bool (sameL l m)) ∧ Below w.heap.size w w' := by
 have H1 := Lib.hid h1
 have H2 := Lib.hid h2
 have HS := Lib.hid hS
 clear h1 h2 hS
 by_cases hlen : l.length = m.length
 · have b0 : ((l.length : Int) == (m.length : Int)) = true := beq_iff_eq.2 (by omega)
   have b1 : ((l.length : Int) != (m.length : Int)) = false := by simp only [bne, b0]; rfl
   have HLEN := Lib.hid hlen
   clear hlen
   go_enter Tryz.func47, Tryz.ntmps47
   go_wp2_with fail
   go_loopw [17] (fun i wr => ∃ j : Nat, j ≤ l.length ∧ i = .int .i64 j ∧ sameL l m = sameL (l.drop j) (m.drop j) ∧ Below w.heap.size w wr) (fun i _ => l.length - (intOf i).toNat)
   case atStart => exact ⟨0, Nat.zero_le _, rfl, rfl, Below.refl _ _⟩
   case round =>
    obtain ⟨j, hj, rfl, hv, hb⟩ := hrel
    have HB1 := Lib.hid hb
    have HV1 := Lib.hid hv
    have hsz := hb.size
    clear hb hv
    by_cases hlt : j < l.length
    · obtain ⟨x, hx⟩ : ∃ x, l[j]? = some x := ⟨_, List.getElem?_eq_getElem hlt⟩
      obtain ⟨y, hy⟩ : ∃ y, m[j]? = some y := ⟨_, List.getElem?_eq_getElem (by rw [← HLEN.out]; exact hlt)⟩
      have hlt2 : j < m.length := by rw [← HLEN.out]; exact hlt
      obtain ⟨b, off, rx, rfl, hbb, hmx, c0, c1, c2, c3, c4, c5⟩ := (H1.out.later HB1.out (Nat.le_refl _)).at hx
      obtain ⟨b', off', ry, rfl, hbb', hmy, d0, d1, d2, d3, d4, d5⟩ := (H2.out.later HB1.out (Nat.le_refl _)).at hy
      have hb1 : b < wr.heap.size := by omega
      have hb2 : b' < wr.heap.size := by omega
      have HX := Lib.hid (show sameL l m = (sameV x y && sameL (l.drop (j + 1)) (m.drop (j + 1))) by rw [HV1.out, drop_at_T hx, drop_at_T hy, sameL])
      have HM := Lib.hid (And.intro (hmx.here hsz) (hmy.here hsz))
      have HC := Lib.hid (HS.out x (List.mem_of_getElem? hx) y rx ry)
      unfold RN.val at HC
      clear hmx hmy hx hy
      cases hq : sameV x y with
      | true =>
       rw [hq] at HC HX
       have eg : ∀ args w, (callFunc 17 args).run Tryz.prog w = .ok (.enter 17 args) w := fun args w => by rfl
       go_wp2_with (go_at_fn 17; refine (HC.out _ (HM.out.1.boxed2 _ _) (HM.out.2.boxed2 _ _)).mono ?_; rintro e w2 ⟨rfl, hb3⟩; have HB2 := Lib.hid (below_then ((HB1.out.alloc HB1.out.size _).alloc (by rw [World.size_alloc]; have := HB1.out.size; omega) _) hb3); clear hb3)
       go_roundw
       case rel => exact ⟨j + 1, by omega, by go_num, by rw [HX.out]; rfl, HB2.out⟩
       case measure => simp only [intOf]; omega
      | false =>
       rw [hq] at HC HX
       have HV := Lib.hid (show sameL l m = false by rw [HX.out]; rfl)
       have eg : ∀ args w, (callFunc 17 args).run Tryz.prog w = .ok (.enter 17 args) w := fun args w => by rfl
       go_wp2_with (go_at_fn 17; refine (HC.out _ (HM.out.1.boxed2 _ _) (HM.out.2.boxed2 _ _)).mono ?_; rintro e w2 ⟨rfl, hb3⟩; have HB2 := Lib.hid (below_then ((HB1.out.alloc HB1.out.size _).alloc (by rw [World.size_alloc]; have := HB1.out.size; omega) _) hb3); clear hb3)
       go_ret
       exact ⟨ret_bool HV.out.symm, HB2.out⟩
    · have HV := Lib.hid (show sameL l m = true by rw [HV1.out, List.drop_of_length_le (by omega), List.drop_of_length_le (by rw [← HLEN.out]; omega)]; rfl)
      go_wp2_with fail
      go_ret
      exact ⟨ret_bool HV.out.symm, HB1.out⟩
 · have b0 : ((l.length : Int) == (m.length : Int)) = false := beq_eq_false_iff_ne.2 (by omega)
   have b1 : ((l.length : Int) != (m.length : Int)) = true := by simp only [bne, b0]; rfl
   have HV := Lib.hid (show sameL l m = false by rw [Bool.eq_false_iff]; exact fun h => hlen (sameL_len h))
   go_enter Tryz.func47, Tryz.ntmps47
   go_wp2_with fail
   go_ret
   exact ⟨ret_bool HV.out.symm, Below.refl _ _⟩
theorem KidsM.boxed2 {w : World} {A : Option Addr} {l : List Tree} (h : KidsM w w.heap.size A l) (o o' : Obj) : KidsM ((w.alloc o).alloc o') ((w.alloc o).alloc o').heap.size A l :=
 ((h.alloc (Nat.le_refl _) o).alloc (by rw [World.size_alloc]; omega) o').more (by rw [World.size_alloc, World.size_alloc]; omega)
theorem below2 (w : World) (o o' : Obj) : Below w.heap.size w ((w.alloc o).alloc o') := ((Below.refl _ _).alloc (Nat.le_refl _) o).alloc (by rw [World.size_alloc]; omega) o'
theorem toBA_ne {n n' : BL} (h : ¬ n = n') : ¬ (toBA n).toList = (toBA n').toList := fun e => h (by rw [ByteArray.toList_eq, ByteArray.toList_eq, toBA_list, toBA_list] at e; exact e)
theorem aSame : ∀ (t u : Tree) (r s : RN) (w : World), NodeM w w.heap.size t r → NodeM w w.heap.size u s → costT t ≤ 3000 →
  Calls Tryz.prog 17 #[r.val, s.val] w fun e w' => e = .returned (.bool (sameV t u)) ∧ Below w.heap.size w w' := by
 refine tree_ind (fun k f en a n l ih u r s w hm hm' hc => ?_)
 obtain ⟨k', f', en', a', n', l'⟩ := u
 obtain ⟨A, cap, rfl, hk⟩ := hm.open2
 obtain ⟨A', cap', rfl, hk'⟩ := hm'.open2
 have hlen := kids_few hc
 unfold RN.val
 by_cases h0 : k = k'
 · subst h0
   by_cases h1 : n = n'
   · subst h1
     have HV := Lib.hid (show sameV (.mk k f en a n l) (.mk k f' en' a' n l') = sameL l l' by simp [sameV])
     have HE := Lib.hid (fun o o' => equalFunc l l' A A' cap cap' ((w.alloc o).alloc o') (by omega) (hk.boxed2 o o') (hk'.boxed2 o o') (fun x hx y rx ry W h1 h2 => ih x hx y rx ry W h1 h2 (kid_cost hc hx)))
     have HB := Lib.hid (below2 w)
     clear hm hm' ih hc hlen hk hk'
     go_enter Tryz.func17, Tryz.ntmps17
     go_wp2_with (first | (go_at_call 47; refine (HE.out _ _).mono ?_; rintro e w2 ⟨rfl, hb2⟩; have HB2 := Lib.hid (below_then (HB.out _ _) hb2); clear hb2))
     go_ret
     exact ⟨ret_bool HV.out.symm, HB2.out⟩
   · have HV := Lib.hid (show sameV (.mk k f en a n l) (.mk k f' en' a' n' l') = false by simp [sameV, h1])
     have HB := Lib.hid (below2 w)
     have hne := toBA_ne h1
     have hne2 : ((toBA n).toList == (toBA n').toList) = false := by simpa using hne
     clear hm hm' ih hc hlen hk hk' h1
     go_enter Tryz.func17, Tryz.ntmps17
     go_wp2_with fail
     go_ret
     exact ⟨ret_bool HV.out.symm, HB.out _ _⟩
 · have HV := Lib.hid (show sameV (.mk k f en a n l) (.mk k' f' en' a' n' l') = false by simp [sameV, h0])
   have HB := Lib.hid (below2 w)
   have b0 : (k == k') = false := beq_eq_false_iff_ne.2 h0
   clear hm hm' ih hc hlen hk hk'
   go_enter Tryz.func17, Tryz.ntmps17
   go_wp2_with fail
   go_ret
   exact ⟨ret_bool HV.out.symm, HB.out _ _⟩
def Six (w : World) (b o : Nat) (r : RN) : Prop := w.cell? ⟨b, o, none⟩ = some (.int .i64 r.kind) ∧ w.cell? ⟨b, o + 1, none⟩ = some (.int .i64 r.fr) ∧ w.cell? ⟨b, o + 2, none⟩ = some (.int .i64 r.en) ∧
      w.cell? ⟨b, o + 3, none⟩ = some (.int .i64 r.at_) ∧ w.cell? ⟨b, o + 4, none⟩ = some (.string r.name) ∧ w.cell? ⟨b, o + 5, none⟩ = some (.slice r.A r.n r.cap)
theorem Six.keep {w w' : World} {b o : Nat} {r : RN} (h : Six w b o r) (hb : Below w.heap.size w w') (hlt : b < w.heap.size) : Six w' b o r := by
 obtain ⟨h0, h1, h2, h3, h4, h5⟩ := h
 exact ⟨(hb.cell hlt).trans h0, (hb.cell hlt).trans h1, (hb.cell hlt).trans h2, (hb.cell hlt).trans h3, (hb.cell hlt).trans h4, (hb.cell hlt).trans h5⟩
theorem six_two {w W W' : World} {b o b' o' q q' : Nat} {r s : RN} {v v' : Value} (hbW : Below w.heap.size w W) (hb : Below W.heap.size W W') (h : b < w.heap.size) (h' : b' < w.heap.size) (hq : q < w.heap.size) (hq' : q' < w.heap.size)
  (h1 : Six w b o r) (h2 : Six w b' o' s) (h3 : w.cell? ⟨q, 5, none⟩ = some v) (h4 : w.cell? ⟨q', 5, none⟩ = some v') :
  Below w.heap.size w W' ∧ W'.cell? ⟨q, 5, none⟩ = some v ∧ W'.cell? ⟨q', 5, none⟩ = some v' ∧ W'.cell? ⟨b, o, none⟩ = some (.int .i64 r.kind) ∧ W'.cell? ⟨b, o + 1, none⟩ = some (.int .i64 r.fr) ∧ W'.cell? ⟨b, o + 2, none⟩ = some (.int .i64 r.en) ∧
   W'.cell? ⟨b, o + 3, none⟩ = some (.int .i64 r.at_) ∧ W'.cell? ⟨b, o + 4, none⟩ = some (.string r.name) ∧ W'.cell? ⟨b, o + 5, none⟩ = some (.slice r.A r.n r.cap) ∧ W'.cell? ⟨b', o', none⟩ = some (.int .i64 s.kind) ∧ W'.cell? ⟨b', o' + 1, none⟩ = some (.int .i64 s.fr) ∧ W'.cell? ⟨b', o' + 2, none⟩ = some (.int .i64 s.en) ∧
   W'.cell? ⟨b', o' + 3, none⟩ = some (.int .i64 s.at_) ∧ W'.cell? ⟨b', o' + 4, none⟩ = some (.string s.name) ∧ W'.cell? ⟨b', o' + 5, none⟩ = some (.slice s.A s.n s.cap) := by
 have hT := below_then hbW hb
 obtain ⟨a0, a1, a2, a3, a4, a5⟩ := h1.keep hT h
 obtain ⟨b0, b1, b2, b3, b4, b5⟩ := h2.keep hT h'
 exact ⟨hT, (hT.cell hq).trans h3, (hT.cell hq').trans h4, a0, a1, a2, a3, a4, a5, b0, b1, b2, b3, b4, b5⟩
theorem rSame : ∀ (t u : Tree) (r s : RN) (w : World), NodeM w w.heap.size t r → NodeM w w.heap.size u s → costT t ≤ 3000 →
  Calls Tryz.prog 18 #[r.val, s.val] w fun e w' => e = .returned (.bool (sameV t u)) ∧ Below w.heap.size w w' := by
 refine tree_ind (fun k f en a n l ih u r s w hm hm' hc => ?_)
 obtain ⟨k', f', en', a', n', l'⟩ := u
 obtain ⟨A, cap, rfl, hk⟩ := hm.open2
 obtain ⟨A', cap', rfl, hk'⟩ := hm'.open2
 have hlen := kids_few hc
 unfold RN.val
 by_cases h0 : k = k'
 · subst h0
   by_cases h1 : n = n'
   · subst h1
     by_cases h2 : l.length = l'.length
     · have HV := Lib.hid (show sameV (.mk k f en a n l) (.mk k f' en' a' n l') = sameL l l' by simp [sameV])
       have HB := Lib.hid (below2 w)
       have H1 := Lib.hid hk
       have H2 := Lib.hid hk'
       have HI := Lib.hid (fun x hx y rx ry W h1 h2 => ih x hx y rx ry W h1 h2 (kid_cost hc hx))
       have b0 : ((l.length : Int) == (l'.length : Int)) = true := beq_iff_eq.2 (by omega)
       have b1 : ((l.length : Int) != (l'.length : Int)) = false := by simp only [bne, b0]; rfl
       have HLEN := Lib.hid h2
       clear hm hm' ih hc hk hk' h2
       go_enter Tryz.func18, Tryz.ntmps18
       go_wp2_with fail
       go_loopw [5] (fun i wr => ∃ j : Nat, j ≤ l.length ∧ i = .int .i64 j ∧ sameL l l' = sameL (l.drop j) (l'.drop j) ∧ wr.heap[w.heap.size]? = some (boxC ⟨k, f, en, a, toBA n, A, l.length, cap⟩) ∧ wr.heap[w.heap.size + 1]? = some (boxC ⟨k, f', en', a', toBA n, A', l'.length, cap'⟩) ∧ Below w.heap.size w wr) (fun i _ => l.length - (intOf i).toNat)
       case atStart => exact ⟨0, Nat.zero_le _, rfl, rfl, nb_alloc (heap_alloc_new _ _), by have := heap_alloc_new (w.alloc (boxC ⟨k, f, en, a, toBA n, A, l.length, cap⟩)) (boxC ⟨k, f', en', a', toBA n, A', l'.length, cap'⟩); rwa [World.size_alloc] at this, HB.out _ _⟩
       case round =>
        obtain ⟨j, hj, rfl, hv, hbx, hbx', hb⟩ := hrel
        have HB1 := Lib.hid hb
        have HV1 := Lib.hid hv
        have HBX := Lib.hid (And.intro hbx hbx')
        obtain ⟨e0, e1, e2, e3, e4, e5, ez, el⟩ := ncells hbx
        obtain ⟨g0, g1, g2, g3, g4, g5, gz, gl⟩ := ncells hbx'
        have hsz := hb.size
        clear hb hv hbx hbx'
        by_cases hlt : j < l.length
        · obtain ⟨x, hx⟩ : ∃ x, l[j]? = some x := ⟨_, List.getElem?_eq_getElem hlt⟩
          have hlt2 : j < l'.length := by rw [← HLEN.out]; exact hlt
          obtain ⟨y, hy⟩ : ∃ y, l'[j]? = some y := ⟨_, List.getElem?_eq_getElem hlt2⟩
          obtain ⟨b, off, rx, rfl, hbb, hmx, c0, c1, c2, c3, c4, c5⟩ := (H1.out.later HB1.out (Nat.le_refl _)).at hx
          obtain ⟨b', off', ry, rfl, hbb', hmy, d0, d1, d2, d3, d4, d5⟩ := (H2.out.later HB1.out (Nat.le_refl _)).at hy
          have hb1 : b < wr.heap.size := by omega
          have hb2 : b' < wr.heap.size := by omega
          have HX := Lib.hid (show sameL l l' = (sameV x y && sameL (l.drop (j + 1)) (l'.drop (j + 1))) by rw [HV1.out, drop_at_T hx, drop_at_T hy, sameL])
          have HM := Lib.hid (And.intro (hmx.here hsz) (hmy.here hsz))
          have HC := Lib.hid (HI.out x (List.mem_of_getElem? hx) y rx ry)
          unfold RN.val at HC
          clear hmx hmy hx hy
          cases hq : sameV x y with
          | true =>
           rw [hq] at HC HX
           go_wp2_with fail
           go_region_held3 (fun w' => Below wr.heap.size wr w' ∧ w'.cell? ⟨w.heap.size, 5, none⟩ = some (.slice (some ⟨b, off, none⟩) l.length cap) ∧ w'.cell? ⟨w.heap.size + 1, 5, none⟩ = some (.slice (some ⟨b', off', none⟩) l'.length cap') ∧ w'.cell? ⟨b, off + j * 6, none⟩ = some (.int .i64 rx.kind) ∧ w'.cell? ⟨b, off + j * 6 + 1, none⟩ = some (.int .i64 rx.fr) ∧ w'.cell? ⟨b, off + j * 6 + 2, none⟩ = some (.int .i64 rx.en) ∧
  w'.cell? ⟨b, off + j * 6 + 3, none⟩ = some (.int .i64 rx.at_) ∧ w'.cell? ⟨b, off + j * 6 + 4, none⟩ = some (.string rx.name) ∧ w'.cell? ⟨b, off + j * 6 + 5, none⟩ = some (.slice rx.A rx.n rx.cap) ∧ w'.cell? ⟨b', off' + j * 6, none⟩ = some (.int .i64 ry.kind) ∧ w'.cell? ⟨b', off' + j * 6 + 1, none⟩ = some (.int .i64 ry.fr) ∧ w'.cell? ⟨b', off' + j * 6 + 2, none⟩ = some (.int .i64 ry.en) ∧
  w'.cell? ⟨b', off' + j * 6 + 3, none⟩ = some (.int .i64 ry.at_) ∧ w'.cell? ⟨b', off' + j * 6 + 4, none⟩ = some (.string ry.name) ∧ w'.cell? ⟨b', off' + j * 6 + 5, none⟩ = some (.slice ry.A ry.n ry.cap))
            (first
             | (refine ⟨(Below.refl _ _).drew, ?_⟩; go_keep; done)
             | exact six_two (Below.refl _ _).drew hbS hb1 hb2 el gl ⟨c0, c1, c2, c3, c4, c5⟩ ⟨d0, d1, d2, d3, d4, d5⟩ e5 g5
             | go_keep)
            (first | (go_at_call 18; refine (HC.out _ (HM.out.1.after (Nat.le_refl _) (Below.refl _ _).drew) (HM.out.2.after (Nat.le_refl _) (Below.refl _ _).drew)).mono ?_; rintro e w2 ⟨rfl, hbS⟩))
           rename_i hST
           have HB2 := Lib.hid (And.intro (And.intro (nb_below HBX.out.1 hST.1) (nb_below HBX.out.2 hST.1)) (below_then HB1.out hST.1))
           clear hST
           go_wp2_with fail
           go_roundw
           case rel => exact ⟨j + 1, by omega, by go_num, by rw [HX.out]; rfl, HB2.out.1.1, HB2.out.1.2, HB2.out.2⟩
           case measure => simp only [intOf]; omega
          | false =>
           rw [hq] at HC HX
           have HV := Lib.hid (show sameV (.mk k f en a n l) (.mk k f' en' a' n l') = false by rw [HV.out, HX.out]; rfl)
           go_wp2_with fail
           go_region_held3 (fun w' => Below wr.heap.size wr w' ∧ w'.cell? ⟨w.heap.size, 5, none⟩ = some (.slice (some ⟨b, off, none⟩) l.length cap) ∧ w'.cell? ⟨w.heap.size + 1, 5, none⟩ = some (.slice (some ⟨b', off', none⟩) l'.length cap') ∧ w'.cell? ⟨b, off + j * 6, none⟩ = some (.int .i64 rx.kind) ∧ w'.cell? ⟨b, off + j * 6 + 1, none⟩ = some (.int .i64 rx.fr) ∧ w'.cell? ⟨b, off + j * 6 + 2, none⟩ = some (.int .i64 rx.en) ∧
  w'.cell? ⟨b, off + j * 6 + 3, none⟩ = some (.int .i64 rx.at_) ∧ w'.cell? ⟨b, off + j * 6 + 4, none⟩ = some (.string rx.name) ∧ w'.cell? ⟨b, off + j * 6 + 5, none⟩ = some (.slice rx.A rx.n rx.cap) ∧ w'.cell? ⟨b', off' + j * 6, none⟩ = some (.int .i64 ry.kind) ∧ w'.cell? ⟨b', off' + j * 6 + 1, none⟩ = some (.int .i64 ry.fr) ∧ w'.cell? ⟨b', off' + j * 6 + 2, none⟩ = some (.int .i64 ry.en) ∧
  w'.cell? ⟨b', off' + j * 6 + 3, none⟩ = some (.int .i64 ry.at_) ∧ w'.cell? ⟨b', off' + j * 6 + 4, none⟩ = some (.string ry.name) ∧ w'.cell? ⟨b', off' + j * 6 + 5, none⟩ = some (.slice ry.A ry.n ry.cap))
            (first
             | (refine ⟨(Below.refl _ _).drew, ?_⟩; go_keep; done)
             | exact six_two (Below.refl _ _).drew hbS hb1 hb2 el gl ⟨c0, c1, c2, c3, c4, c5⟩ ⟨d0, d1, d2, d3, d4, d5⟩ e5 g5
             | go_keep)
            (first | (go_at_call 18; refine (HC.out _ (HM.out.1.after (Nat.le_refl _) (Below.refl _ _).drew) (HM.out.2.after (Nat.le_refl _) (Below.refl _ _).drew)).mono ?_; rintro e w2 ⟨rfl, hbS⟩))
           rename_i hST
           have HB2 := Lib.hid (And.intro (And.intro (nb_below HBX.out.1 hST.1) (nb_below HBX.out.2 hST.1)) (below_then HB1.out hST.1))
           clear hST
           go_wp2_with fail
           go_ret
           exact ⟨ret_bool HV.out.symm, HB2.out.2⟩
        · have HV2 := Lib.hid (show sameV (.mk k f en a n l) (.mk k f' en' a' n l') = true by rw [HV.out, HV1.out, List.drop_of_length_le (by omega), List.drop_of_length_le (by rw [← HLEN.out]; omega)]; rfl)
          go_wp2_with fail
          go_ret
          exact ⟨ret_bool HV2.out.symm, HB1.out⟩
     · have HV := Lib.hid (show sameV (.mk k f en a n l) (.mk k f' en' a' n l') = false by
        rw [Bool.eq_false_iff]; intro hh
        simp only [sameV, Bool.and_eq_true] at hh
        exact h2 (sameL_len hh.2))
       have HB := Lib.hid (below2 w)
       have b0 : ((l.length : Int) == (l'.length : Int)) = false := beq_eq_false_iff_ne.2 (by omega)
       have b1 : ((l.length : Int) != (l'.length : Int)) = true := by simp only [bne, b0]; rfl
       clear hm hm' ih hc hk hk'
       go_enter Tryz.func18, Tryz.ntmps18
       go_wp2_with fail
       go_ret
       exact ⟨ret_bool HV.out.symm, HB.out _ _⟩
   · have HV := Lib.hid (show sameV (.mk k f en a n l) (.mk k f' en' a' n' l') = false by simp [sameV, h1])
     have HB := Lib.hid (below2 w)
     have hne := toBA_ne h1
     have hne2 : ((toBA n).toList == (toBA n').toList) = false := by simpa using hne
     clear hm hm' ih hc hlen hk hk' h1
     go_enter Tryz.func18, Tryz.ntmps18
     go_wp2_with fail
     go_ret
     exact ⟨ret_bool HV.out.symm, HB.out _ _⟩
 · have HV := Lib.hid (show sameV (.mk k f en a n l) (.mk k' f' en' a' n' l') = false by simp [sameV, h0])
   have HB := Lib.hid (below2 w)
   have b0 : (k == k') = false := beq_eq_false_iff_ne.2 h0
   have b1 : (k != k') = true := by simp only [bne, b0]; rfl
   clear hm hm' ih hc hlen hk hk'
   go_enter Tryz.func18, Tryz.ntmps18
   go_wp2_with fail
   go_ret
   exact ⟨ret_bool HV.out.symm, HB.out _ _⟩
abbrev OwnN (w : World) (B : Nat) (v : Value) (l : List RN) : Prop := Own RN.cells 6 24 w B v l
def ReadL (w : World) (B : Nat) (L : List Tree) (rs : List RN) : Prop := rs.length = L.length ∧ ∀ (i : Nat) (x : Tree) (r : RN), L[i]? = some x → rs[i]? = some r → NodeM w B x r
theorem ReadL.nil_ {w : World} {B : Nat} : ReadL w B [] [] := ⟨rfl, fun i x r h => by simp at h⟩
theorem ReadL.cons {w : World} {B : Nat} {x : Tree} {r : RN} {L : List Tree} {rs : List RN} (h : NodeM w B x r) (hL : ReadL w B L rs) : ReadL w B (x :: L) (r :: rs) := by
 refine ⟨by simp [hL.1], fun i y s hy hs => ?_⟩
 cases i with
 | zero => cases hy; cases hs; exact h
 | succ i => exact hL.2 i y s (by simpa using hy) (by simpa using hs)
theorem ReadL.back {w w' : World} {B B' : Nat} {L : List Tree} {rs : List RN} (h : ReadL w' B L rs) (hb : Below B' w w') (hB : B ≤ B') : ReadL w B L rs :=
 ⟨h.1, fun i x r hx hr => (h.2 i x r hx hr).keep fun p hp => (hb.cell (by omega)).symm⟩
theorem ReadL.on {w w' : World} {B B' : Nat} {L : List Tree} {rs : List RN} (h : ReadL w B L rs) (hb : Below B' w w') (hB : B ≤ B') : ReadL w' B L rs :=
 ⟨h.1, fun i x r hx hr => (h.2 i x r hx hr).under hb hB⟩
def NodesOut (L : List Tree) (B : Nat) (w : World) (e : Ending) (w' : World) : Prop :=
 (∃ A cap rs, e = .returned (.slice A L.length cap) ∧ RowOf RN.cells 6 w' w'.heap.size A rs ∧ ReadL w B L rs ∧ (A = none → L.length = 0)) ∧ Below w.heap.size w w'
theorem NodesOut.nil_ (B : Nat) (w w' : World) (hb : Below w.heap.size w w') : NodesOut [] B w (.returned (.slice none 0 0)) w' :=
 ⟨⟨none, 0, [], rfl, RowOf.nil_, .nil_, fun _ => rfl⟩, hb⟩
theorem NodesOut.own {L : List Tree} {B : Nat} {w w' : World} {v : Value} {rs : List RN} {B' : Nat} (ho : OwnN w' B' v rs) (hr : ReadL w B L rs) (hb : Below w.heap.size w w') : NodesOut L B w (.returned v) w' := by
 obtain ⟨A, c, rfl, hrow⟩ := ho.row RN.len
 refine ⟨⟨A, c, rs, by rw [hr.1], hrow, hr, fun hA => ?_⟩, hb⟩
 rcases Nat.eq_zero_or_pos L.length with h | h
 · exact h
 · obtain ⟨b, off, e, _⟩ := hrow (by rw [hr.1]; exact h)
   rw [hA] at e; cases e
theorem OwnN.mono {w : World} {B B' : Nat} {v : Value} {l : List RN} (h : OwnN w B v l) (hB : B' ≤ B) : OwnN w B' v l := by
 refine ⟨h.1, ?_⟩
 rcases h.2 with h0 | ⟨g, cap, cur, hv, hg1, rest⟩
 · exact .inl h0
 · exact .inr ⟨g, cap, cur, hv, Nat.le_trans hB hg1, rest⟩
theorem KidsM.back {w w' : World} {B B' : Nat} {A : Option Addr} {l : List Tree} (h : KidsM w' B A l) (hb : Below B' w w') (hB : B ≤ B') : KidsM w B A l := by
 obtain ⟨rs, hr, hl, hk⟩ := h
 exact ⟨rs, hr.keep fun p hp => (hb.cell (by omega)).symm, hl, fun i x r hx hrx => (hk i x r hx hrx).keep fun p hp => (hb.cell (by omega)).symm⟩
end Go.Proofs.YtacdfjlncfidgaaGreatDoor
