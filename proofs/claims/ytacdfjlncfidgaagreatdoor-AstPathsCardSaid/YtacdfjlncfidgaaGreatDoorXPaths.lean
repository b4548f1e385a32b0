/- What this law leans on beside the rest. -/
import Derived.WalkKit
import Derived.Outline
import Derived.Lib.Hide
import Derived.WalkLawsBesides
import Derived.WalkSpells
import Derived.Deep.AppendLies
import Derived.Deep.Draws
import Derived.Laws.OwnMore
import Derived.Maps.AppendAt
import Derived.OwnWalk
import Derived.Deep.QuietTactic
import Derived.BigQuiet
import Derived.Deep.RegionHeld3
import Derived.BigRegion
import Derived.Test.YtacdfjlncfidgaaGreatDoorQA
import Derived.Test.YtacdfjlncfidgaaGreatDoorRA
import Derived.Test.YtacdfjlncfidgaaGreatDoorTB
import Derived.Test.YtacdfjlncfidgaaGreatDoorRB
import Derived.Test.YtacdfjlncfidgaaGreatDoorTO
import Derived.Test.YtacdfjlncfidgaaGreatDoorTD
import Derived.Test.YtacdfjlncfidgaaGreatDoorRQ
import Derived.Test.YtacdfjlncfidgaaGreatDoorRF
namespace Go.Proofs.YtacdfjlncfidgaaGreatDoor
open Go.RowKit
set_option linter.unusedVariables false
set_option linter.unusedSimpArgs false
set_option maxRecDepth 100000
set_option maxHeartbeats 3200000
section
variable {P : Program} {α : Type} {cs : α → List Value} {sz : Nat}
theorem below_grown {B : Nat} {w0 W w' : World} {e : TypeId} {v : Value} {l : List α} (hb : Below B w0 W) (hown : Own cs sz e W B v l) (hB : B ≤ W.heap.size) (hg : W.grownBy w' v.ownBlock) : Below B w0 w' :=
 hb.grown hg hB fun k hk => (hown.lt k hk).1
end
theorem get_some {α : Type} {l : List α} {k : Nat} (h : k < l.length) : ∃ x, l[k]? = some x := ⟨l[k], List.getElem?_eq_getElem h⟩
mutual
def pathV (from_ to_ : Int) : Tree → List Tree
 | .mk k f t a n l => if k = 0 ∨ f > from_ ∨ from_ > to_ ∨ to_ > t then [] else .mk k f t a n l :: pathL from_ to_ l
def pathL (from_ to_ : Int) : List Tree → List Tree
 | [] => []
 | t :: l => if (pathV from_ to_ t).isEmpty then pathL from_ to_ l else pathV from_ to_ t
end
theorem rEqual : ∀ (t : Tree) (r s : RN) (w : World), NodeM w w.heap.size t r → NodeM w w.heap.size t s → costT t ≤ 3000 →
  Calls Tryz.prog 22 #[r.val, s.val] w fun e w' => e = .returned (.bool true) ∧ Below w.heap.size w w' := by
 refine tree_ind (fun k f en a n l ih r s w hm hm' hc => ?_)
 obtain ⟨A, cap, rfl, hk⟩ := hm.open2
 obtain ⟨A', cap', rfl, hk'⟩ := hm'.open2
 have hlen := kids_few hc
 unfold RN.val
 have HB := Lib.hid (below2 w)
 have H1 := Lib.hid hk
 have H2 := Lib.hid hk'
 have HI := Lib.hid (fun x hx rx ry W h1 h2 => ih x hx rx ry W h1 h2 (kid_cost hc hx))
 clear hm hm' ih hc hk hk'
 go_enter Tryz.func22, Tryz.ntmps22
 go_wp2_with fail
 go_loopw [5] (fun i wr => ∃ j : Nat, j ≤ l.length ∧ i = .int .i64 j ∧ wr.heap[w.heap.size]? = some (boxC ⟨k, f, en, a, toBA n, A, l.length, cap⟩) ∧ wr.heap[w.heap.size + 1]? = some (boxC ⟨k, f, en, a, toBA n, A', l.length, cap'⟩) ∧ Below w.heap.size w wr) (fun i _ => l.length - (intOf i).toNat)
 case atStart => exact ⟨0, Nat.zero_le _, rfl, nb_alloc (heap_alloc_new _ _), by have := heap_alloc_new (w.alloc (boxC ⟨k, f, en, a, toBA n, A, l.length, cap⟩)) (boxC ⟨k, f, en, a, toBA n, A', l.length, cap'⟩); rwa [World.size_alloc] at this, HB.out _ _⟩
 case round =>
  obtain ⟨j, hj, rfl, hbx, hbx', hb⟩ := hrel
  have HB1 := Lib.hid hb
  have HBX := Lib.hid (And.intro hbx hbx')
  obtain ⟨e0, e1, e2, e3, e4, e5, ez, el⟩ := ncells hbx
  obtain ⟨g0, g1, g2, g3, g4, g5, gz, gl⟩ := ncells hbx'
  have hsz := hb.size
  clear hb hbx hbx'
  by_cases hlt : j < l.length
  · obtain ⟨x, hx⟩ : ∃ x, l[j]? = some x := ⟨_, List.getElem?_eq_getElem hlt⟩
    obtain ⟨b, off, rx, rfl, hbb, hmx, c0, c1, c2, c3, c4, c5⟩ := (H1.out.later HB1.out (Nat.le_refl _)).at hx
    obtain ⟨b', off', ry, rfl, hbb', hmy, d0, d1, d2, d3, d4, d5⟩ := (H2.out.later HB1.out (Nat.le_refl _)).at hx
    have hb1 : b < wr.heap.size := by omega
    have hb2 : b' < wr.heap.size := by omega
    have HM := Lib.hid (And.intro (hmx.here hsz) (hmy.here hsz))
    have HC := Lib.hid (HI.out x (List.mem_of_getElem? hx) rx ry)
    unfold RN.val at HC
    clear hmx hmy hx
    go_wp2_with fail
    go_region_held3 (fun w' => Below wr.heap.size wr w' ∧ w'.cell? ⟨w.heap.size, 5, none⟩ = some (.slice (some ⟨b, off, none⟩) l.length cap) ∧ w'.cell? ⟨w.heap.size + 1, 5, none⟩ = some (.slice (some ⟨b', off', none⟩) l.length cap') ∧ w'.cell? ⟨b, off + j * 6, none⟩ = some (.int .i64 rx.kind) ∧ w'.cell? ⟨b, off + j * 6 + 1, none⟩ = some (.int .i64 rx.fr) ∧ w'.cell? ⟨b, off + j * 6 + 2, none⟩ = some (.int .i64 rx.en) ∧
  w'.cell? ⟨b, off + j * 6 + 3, none⟩ = some (.int .i64 rx.at_) ∧ w'.cell? ⟨b, off + j * 6 + 4, none⟩ = some (.string rx.name) ∧ w'.cell? ⟨b, off + j * 6 + 5, none⟩ = some (.slice rx.A rx.n rx.cap) ∧ w'.cell? ⟨b', off' + j * 6, none⟩ = some (.int .i64 ry.kind) ∧ w'.cell? ⟨b', off' + j * 6 + 1, none⟩ = some (.int .i64 ry.fr) ∧ w'.cell? ⟨b', off' + j * 6 + 2, none⟩ = some (.int .i64 ry.en) ∧
  w'.cell? ⟨b', off' + j * 6 + 3, none⟩ = some (.int .i64 ry.at_) ∧ w'.cell? ⟨b', off' + j * 6 + 4, none⟩ = some (.string ry.name) ∧ w'.cell? ⟨b', off' + j * 6 + 5, none⟩ = some (.slice ry.A ry.n ry.cap))
     (first
      | (refine ⟨(Below.refl _ _).drew, ?_⟩; go_keep; done)
      | exact six_two (Below.refl _ _).drew hbS hb1 hb2 el gl ⟨c0, c1, c2, c3, c4, c5⟩ ⟨d0, d1, d2, d3, d4, d5⟩ e5 g5
      | go_keep)
     (first | (go_at_call 22; refine (HC.out _ (HM.out.1.after (Nat.le_refl _) (Below.refl _ _).drew) (HM.out.2.after (Nat.le_refl _) (Below.refl _ _).drew)).mono ?_; rintro e w2 ⟨rfl, hbS⟩))
    rename_i hST
    have HB2 := Lib.hid (And.intro (And.intro (nb_below HBX.out.1 hST.1) (nb_below HBX.out.2 hST.1)) (below_then HB1.out hST.1))
    clear hST
    go_wp2_with fail
    go_roundw
    case rel => exact ⟨j + 1, by omega, by go_num, HB2.out.1.1, HB2.out.1.2, HB2.out.2⟩
    case measure => simp only [intOf]; omega
  · go_wp2_with fail
    go_ret
    exact ⟨rfl, HB1.out⟩
section
variable {P : Program} {α : Type} {cs : α → List Value} {sz : Nat}
theorem RowOf.flatN (hs : ∀ x, (cs x).length = sz) (hsz : 0 < sz) {w : World} {B : Nat} {A : Option Addr} {l : List α} (h : RowOf cs sz w B A l) {q : Nat} {u : Value} (hq : (l.flatMap cs)[q]? = some u) :
  ∃ b off, A = some ⟨b, off, none⟩ ∧ b < B ∧ w.cell? ⟨b, off + q, none⟩ = some u := by
 have hlen : q < l.length * sz := by
  rw [← flat_len hs l]
  rcases Nat.lt_or_ge q (l.flatMap cs).length with h' | h'
  · exact h'
  · rw [List.getElem?_eq_none h'] at hq; cases hq
 have hi : q / sz < l.length := by rw [Nat.div_lt_iff_lt_mul hsz]; exact hlen
 have hj : q % sz < sz := Nat.mod_lt _ hsz
 obtain ⟨x, hx⟩ := get_some hi
 obtain ⟨b, off, hA, hB, hc⟩ := h (Nat.lt_of_le_of_lt (Nat.zero_le _) hi)
 have hv : (cs x)[q % sz]? = some ((cs x)[q % sz]'(by rw [hs]; exact hj)) := List.getElem?_eq_getElem _
 have hf := flat_at hs l (q / sz) x hx (q % sz) _ hv
 have he : q / sz * sz + q % sz = q := by rw [Nat.mul_comm]; exact Nat.div_add_mod q sz
 rw [he, hq] at hf
 have := hc (q / sz) x hx (q % sz) _ hv
 rw [Nat.add_assoc, he, ← hf] at this
 exact ⟨b, off, hA, hB, this⟩
theorem flat_oneN (hone1 : ∀ y, ∀ u ∈ cs y, u.oneCell' = true) (l : List α) : ∀ u ∈ l.flatMap cs, u.oneCell' = true := by
 intro u hu
 obtain ⟨x, _, hx⟩ := List.mem_flatMap.1 hu
 exact hone1 x u hx
end
theorem info24 : (Tryz.prog.info? 24).map (fun i => (i.zero, i.size, i.bytes)) = some (some (.agg #[.int .i64 0, .int .i64 0, .int .i64 0, .int .i64 0, .string ⟨#[]⟩, .slice none 0 0]), 6, 72) := by kernel_rfl
theorem run_append_rows (A : Option Addr) (m c : Nat) (V : Value) (l l1 : List RN) (B B1 : Nat) (w : World) (hV : OwnN w B V l) (hm : m = l1.length) (hl : l.length + l1.length ≤ 100000) (hr : RowOf RN.cells 6 w B1 A l1) (hB : B ≤ w.heap.size) (hnil : A = none → m = 0) :
  ∃ v w1, (Builtin.append_ #[22, 22] 22 #[V, .slice A m c]).run Tryz.prog w = .ok v w1 ∧ OwnN w1 B v (l ++ l1) ∧ w.grownBy w1 V.ownBlock := by
 obtain ⟨i33, hi33, hz0, hz1, hz2⟩ := info_cut info24
 subst hm
 cases A with
 | none =>
  have h0 := hnil rfl
  obtain rfl : l1 = [] := List.eq_nil_of_length_eq_zero h0
  rcases hV.2 with ⟨hv, h0'⟩ | ⟨g, cap, cur, hv, hg1, hg, hc, hcm, hs, ht⟩
  · subst hv
    refine ⟨.slice none 0 0, w, ?_, by rw [List.append_nil]; exact hV, World.grownBy.refl _ _⟩
    simp [Builtin.append_, run_underlying Tryz.underlying22, sizeOf, typeInfo, zeroValue, hi33, hz0, Builtin.lenOf, run_firstCells_none]
  · subst hv
    refine ⟨.slice (some ⟨g, 0, none⟩) l.length cap, w, ?_, by rw [List.append_nil]; exact hV, World.grownBy.refl _ _⟩
    simp [Builtin.append_, run_underlying Tryz.underlying22, sizeOf, typeInfo, zeroValue, hi33, hz0, Builtin.lenOf, run_firstCells_none, hc, storeCells]
 | some a =>
  obtain ⟨v, w1, h1, h2, h3, _⟩ := run_append_own_at (P := Tryz.prog) w B 22 22 24 i33 _ 6 72 Tryz.underlying22 hi33 hz0 hz1 hz2 rfl (by decide) V l.length (l.flatMap RN.cells) hV a l1.length c (l1.flatMap RN.cells) (flat_len RN.len l1)
   (fun j u hj => by
    obtain ⟨b, off, hA, _, hc⟩ := hr.flatN RN.len (by decide) hj
    injection hA with hA
    subst hA
    rw [Addr.add_lit]
    exact hc) (flat_oneN RN.one l1) (by unfold maxLen; omega) (by omega) hB
  refine ⟨v, w1, h1, ?_, h3⟩
  unfold OwnN Own
  rw [List.length_append, List.flatMap_append]
  exact h2
theorem wpList_append_run {P : Program} {ops : Array Oper} {rest : List Oper} {o : Oper} {a : Act} {Q : Exit → Act → World → Prop} (hgd : o.guard = none) (s x : Operand) (t : TypeId)
  (ho : o.op = .call { callee := .builtin .append, args := #[s, x], argTypes := #[t, t] }) (W w1 : World) (V X v : Value) (hs : a.eval s = V) (hx : a.eval x = X)
  (hrun : (Builtin.append_ #[t, t] o.type #[V, X]).run P W = .ok v w1) (h : wpList P ops Q rest (a.put o.dst v) w1) : wpList P ops Q (o :: rest) a W := by
 refine wpList_plain hgd fun K hK => ?_
 unfold Oper.wp execOp
 simp only [ho, resolve, invoke, builtin, Sem.run_bind, Sem.run_pure, Result.andThen_ok, List.map_toArray, List.map_cons, List.map_nil, hs, hx, hrun]
 exact hK _ _ h
theorem wpList_append_rows {ops : Array Oper} {rest : List Oper} {o : Oper} {a : Act} {Q : Exit → Act → World → Prop} (hgd : o.guard = none) (s x : Operand)
  (ho : o.op = .call { callee := .builtin .append, args := #[s, x], argTypes := #[22, 22] }) (hty : o.type = 22) (W : World) (B B1 : Nat) (V : Value) (A : Option Addr) (m c : Nat) (l l1 : List RN) (hs : a.eval s = V) (hx : a.eval x = .slice A m c)
  (hV : OwnN W B V l) (hm : m = l1.length) (hl : l.length + l1.length ≤ 100000) (hr : RowOf RN.cells 6 W B1 A l1) (hB : B ≤ W.heap.size) (hnil : A = none → m = 0)
  (h : ∀ v' w', OwnN w' B v' (l ++ l1) → W.grownBy w' V.ownBlock → wpList Tryz.prog ops Q rest (a.put o.dst v') w') : wpList Tryz.prog ops Q (o :: rest) a W := by
 obtain ⟨v, w1, hrun, h1, h2⟩ := run_append_rows A m c V l l1 B B1 W hV hm hl hr hB hnil
 exact wpList_append_run hgd s x 22 ho W w1 V _ v hs hx (by rw [hty]; exact hrun) (h v w1 h1 h2)
theorem OwnN.one_ (w : World) (r : RN) : OwnN (w.alloc (boxC r)) w.heap.size (.slice (some ⟨w.heap.size, 0, none⟩) 1 1) [r] := by
 have := World.ownsRow_lit (base := w.heap.size) (e := 24) (size := 6) w #[.int .i64 r.kind, .int .i64 r.fr, .int .i64 r.en, .int .i64 r.at_, .string r.name, .slice r.A r.n r.cap] 1 (Nat.le_refl _) (by decide) rfl
 exact this
mutual
theorem path_cost (fr to_ : Int) : ∀ t : Tree, (pathV fr to_ t).length ≤ costT t
 | .mk k f e a n l => by
  have := pathL_cost fr to_ l
  rw [pathV, costT]
  split
  · simp
  · rw [List.length_cons]; omega
theorem pathL_cost (fr to_ : Int) : ∀ l : List Tree, (pathL fr to_ l).length ≤ costL l
 | [] => by simp [pathL]
 | t :: l => by
  have h1 := path_cost fr to_ t
  have h2 := pathL_cost fr to_ l
  rw [pathL, costL]
  split <;> omega
end
theorem aPath (fr to_ : Int) : ∀ (t : Tree) (r : RN) (w : World) (B : Nat), NodeM w B t r → B ≤ w.heap.size → costT t ≤ 3000 →
  Calls Tryz.prog 20 #[r.val, .int .i64 fr, .int .i64 to_] w (NodesOut (pathV fr to_ t) B w) := by
 refine tree_ind (fun k f en a n l ih r w B hm hB hc => ?_)
 obtain ⟨A, cap, rfl, hk⟩ := hm.open2
 have hlen := kids_few hc
 have HB := Lib.hid ((Below.refl w.heap.size w).alloc (Nat.le_refl _) (boxC ⟨k, f, en, a, toBA n, A, l.length, cap⟩))
 have HK := Lib.hid hk
 have HI := Lib.hid (fun x hx rx W B h1 h2 => ih x hx rx W B h1 h2 (kid_cost hc hx))
 have HC := Lib.hid hc
 have HM := Lib.hid hm
 have HBB := Lib.hid hB
 clear hm ih hc hk
 unfold RN.val
 by_cases h0 : k = 0
 · subst h0
   have HV := Lib.hid (show pathV fr to_ (.mk 0 f en a n l) = [] by simp [pathV])
   go_enter Tryz.func20, Tryz.ntmps20
   go_wp2_with fail
   go_ret
   rw [HV.out]; exact .nil_ _ _ _ HB.out
 have b0 : (k == 0) = false := beq_eq_false_iff_ne.2 h0
 by_cases h1 : fr < f
 · have HV := Lib.hid (show pathV fr to_ (.mk k f en a n l) = [] by rw [pathV, if_pos (by omega)])
   go_enter Tryz.func20, Tryz.ntmps20
   go_wp2_with fail
   go_ret
   rw [HV.out]; exact .nil_ _ _ _ HB.out
 by_cases h2 : to_ < fr
 · have HV := Lib.hid (show pathV fr to_ (.mk k f en a n l) = [] by rw [pathV, if_pos (by omega)])
   go_enter Tryz.func20, Tryz.ntmps20
   go_wp2_with fail
   go_ret
   rw [HV.out]; exact .nil_ _ _ _ HB.out
 by_cases h3 : en < to_
 · have HV := Lib.hid (show pathV fr to_ (.mk k f en a n l) = [] by rw [pathV, if_pos (by omega)])
   go_enter Tryz.func20, Tryz.ntmps20
   go_wp2_with fail
   go_ret
   rw [HV.out]; exact .nil_ _ _ _ HB.out
 have HV := Lib.hid (show pathV fr to_ (.mk k f en a n l) = .mk k f en a n l :: pathL fr to_ l by rw [pathV, if_neg (by omega)])
 go_enter Tryz.func20, Tryz.ntmps20
 go_wp2_with fail
 go_loopw [33] (fun i wr => ∃ j : Nat, j ≤ l.length ∧ i = .int .i64 j ∧ pathL fr to_ l = pathL fr to_ (l.drop j) ∧ wr.heap[w.heap.size]? = some (boxC ⟨k, f, en, a, toBA n, A, l.length, cap⟩) ∧ Below w.heap.size w wr) (fun i _ => l.length - (intOf i).toNat)
 case atStart => exact ⟨0, Nat.zero_le _, rfl, rfl, heap_alloc_new _ _, HB.out⟩
 case round =>
  obtain ⟨j, hj, rfl, hv, hbx, hb⟩ := hrel
  have HB1 := Lib.hid hb
  have HV1 := Lib.hid hv
  have HBX := Lib.hid hbx
  obtain ⟨e0, e1, e2, e3, e4, e5, ez, el⟩ := ncells hbx
  have hsz := hb.size
  clear hb hv hbx
  by_cases hlt : j < l.length
  · obtain ⟨x, hx⟩ : ∃ x, l[j]? = some x := ⟨_, List.getElem?_eq_getElem hlt⟩
    obtain ⟨b, off, rx, rfl, hbb, hmx, c0, c1, c2, c3, c4, c5⟩ := (HK.out.later HB1.out HBB.out).at hx
    have hb1 : b < wr.heap.size := by omega
    have HX := Lib.hid (show pathL fr to_ l = if (pathV fr to_ x).isEmpty then pathL fr to_ (l.drop (j + 1)) else pathV fr to_ x by rw [HV1.out, drop_at_T hx, pathL])
    have HXC := Lib.hid (kid_cost HC.out (List.mem_of_getElem? hx))
    have HCL := Lib.hid (HI.out x (List.mem_of_getElem? hx) rx (wr.alloc (boxC rx)) B (hmx.alloc (by omega) _) (by rw [World.size_alloc]; omega))
    unfold RN.val at HCL
    clear hmx hx
    cases hq : (pathV fr to_ x).isEmpty with
    | true =>
     have hl0 : (pathV fr to_ x).length = 0 := by
      have := List.isEmpty_iff.1 hq; rw [this]; rfl
     rw [hq] at HX
     clear hq
     go_wp2_with (first | (go_at_call 20; refine HCL.out.mono ?_; rintro e w2 ⟨⟨A2, cap2, rs2, rfl, hrow2, hrl2, hn2⟩, hb2⟩; rw [hl0]; have HB2 := Lib.hid (And.intro (nb_below (nb_alloc HBX.out) hb2) (below_then (HB1.out.alloc HB1.out.size _) hb2)); clear hb2 hn2 hrow2 hrl2))
     go_roundw
     case rel => exact ⟨j + 1, by omega, by go_num, by rw [HX.out]; rfl, HB2.out.1, HB2.out.2⟩
     case measure => simp only [intOf]; omega
    | false =>
     have hl0 : ∃ m, (pathV fr to_ x).length = m ∧ 0 < m ∧ m ≤ 3000 := ⟨_, rfl, by
      cases hp : pathV fr to_ x with
      | nil => rw [hp] at hq; simp at hq
      | cons y ys => simp, Nat.le_trans (path_cost fr to_ x) HXC.out⟩
     obtain ⟨m, hl0, hm0, hm1⟩ := hl0
     rw [hq] at HX
     clear hq
     go_wp2_with (first | (go_at_call 20; refine HCL.out.mono ?_; rintro e w2 ⟨⟨A2, cap2, rs2, rfl, hrow2, hrl2, hn2⟩, hb2⟩; rw [hl0]; have HB2 := Lib.hid (And.intro (nb_below (nb_alloc HBX.out) hb2) (below_then (HB1.out.alloc HB1.out.size _) hb2)); have HR2 := Lib.hid (And.intro hrow2 (And.intro hrl2 hn2)); obtain ⟨g0, g1, g2, g3, g4, g5, gz, gl⟩ := ncells HB2.out.1; clear hb2 hn2 hrow2 hrl2) | (at_builtin; go_must (refine wpList_append_rows rfl _ _ rfl rfl (w2.alloc (boxC ⟨k, f, en, a, toBA n, some ⟨b, off, none⟩, l.length, cap⟩)) w2.heap.size w2.heap.size (.slice (some ⟨w2.heap.size, 0, none⟩) 1 1) A2 m cap2 [⟨k, f, en, a, toBA n, some ⟨b, off, none⟩, l.length, cap⟩] rs2 (by rfl) (by rfl) (OwnN.one_ _ _) (by rw [HR2.out.2.1.1, hl0]) (by rw [HR2.out.2.1.1, hl0]; simp; omega) (HR2.out.1.alloc (Nat.le_refl _) _) (by rw [World.size_alloc]; omega) (fun hA => by rw [← hl0]; exact HR2.out.2.2 hA) ?_); intro v3 w3 ho3 hg3))
     go_ret
     have HVX : pathV fr to_ (.mk k f en a n l) = .mk k f en a n l :: pathV fr to_ x := by rw [HV.out, HX.out]; rfl
     rw [HVX]
     have hbw : Below w.heap.size w (wr.alloc (boxC rx)) := HB1.out.alloc HB1.out.size _
     exact .own ho3 (.cons HM.out (HR2.out.2.1.back (B' := w.heap.size) hbw HBB.out)) (below_grown ((HB2.out.2.alloc HB2.out.2.size _)) ((OwnN.one_ w2 _).mono HB2.out.2.size) (by rw [World.size_alloc]; omega) hg3)
  · have HV2 := Lib.hid (show pathV fr to_ (.mk k f en a n l) = [.mk k f en a n l] by rw [HV.out, HV1.out, List.drop_of_length_le (by omega)]; rfl)
    go_wp2_with fail
    go_ret
    rw [HV2.out]
    exact .own (OwnN.one_ wr ⟨k, f, en, a, toBA n, A, l.length, cap⟩) (.cons HM.out .nil_) (HB1.out.alloc HB1.out.size _)
theorem rPath (fr to_ : Int) : ∀ (t : Tree) (r : RN) (w : World) (B : Nat), NodeM w B t r → B ≤ w.heap.size → costT t ≤ 3000 →
  Calls Tryz.prog 21 #[r.val, .int .i64 fr, .int .i64 to_] w (NodesOut (pathV fr to_ t) B w) := by
 refine tree_ind (fun k f en a n l ih r w B hm hB hc => ?_)
 obtain ⟨A, cap, rfl, hk⟩ := hm.open2
 have hlen := kids_few hc
 have HB := Lib.hid ((Below.refl w.heap.size w).alloc (Nat.le_refl _) (boxC ⟨k, f, en, a, toBA n, A, l.length, cap⟩))
 have HK := Lib.hid hk
 have HI := Lib.hid (fun x hx rx W B h1 h2 => ih x hx rx W B h1 h2 (kid_cost hc hx))
 have HC := Lib.hid hc
 have HM := Lib.hid hm
 have HBB := Lib.hid hB
 clear hm ih hc hk
 unfold RN.val
 by_cases h0 : k = 0
 · subst h0
   have HV := Lib.hid (show pathV fr to_ (.mk 0 f en a n l) = [] by simp [pathV])
   go_enter Tryz.func21, Tryz.ntmps21
   go_wp2_with fail
   go_ret
   rw [HV.out]; exact .nil_ _ _ _ HB.out
 have b0 : (k == 0) = false := beq_eq_false_iff_ne.2 h0
 by_cases h1 : fr < f
 · have HV := Lib.hid (show pathV fr to_ (.mk k f en a n l) = [] by rw [pathV, if_pos (by omega)])
   go_enter Tryz.func21, Tryz.ntmps21
   go_wp2_with fail
   go_ret
   rw [HV.out]; exact .nil_ _ _ _ HB.out
 by_cases h2 : to_ < fr
 · have HV := Lib.hid (show pathV fr to_ (.mk k f en a n l) = [] by rw [pathV, if_pos (by omega)])
   go_enter Tryz.func21, Tryz.ntmps21
   go_wp2_with fail
   go_ret
   rw [HV.out]; exact .nil_ _ _ _ HB.out
 by_cases h3 : en < to_
 · have HV := Lib.hid (show pathV fr to_ (.mk k f en a n l) = [] by rw [pathV, if_pos (by omega)])
   go_enter Tryz.func21, Tryz.ntmps21
   go_wp2_with fail
   go_ret
   rw [HV.out]; exact .nil_ _ _ _ HB.out
 have HV := Lib.hid (show pathV fr to_ (.mk k f en a n l) = .mk k f en a n l :: pathL fr to_ l by rw [pathV, if_neg (by omega)])
 go_enter Tryz.func21, Tryz.ntmps21
 go_wp2_with fail
 go_loopw [8] (fun i wr => ∃ j : Nat, j ≤ l.length ∧ i = .int .i64 j ∧ pathL fr to_ l = pathL fr to_ (l.drop j) ∧ wr.heap[w.heap.size]? = some (boxC ⟨k, f, en, a, toBA n, A, l.length, cap⟩) ∧ OwnN wr (w.heap.size + 1) (.slice (some ⟨w.heap.size + 1, 0, none⟩) 1 1) [⟨k, f, en, a, toBA n, A, l.length, cap⟩] ∧ Below w.heap.size w wr) (fun i _ => l.length - (intOf i).toNat)
 case atStart => exact ⟨0, Nat.zero_le _, rfl, rfl, nb_alloc (heap_alloc_new _ _), by have := OwnN.one_ (w.alloc (boxC ⟨k, f, en, a, toBA n, A, l.length, cap⟩)) ⟨k, f, en, a, toBA n, A, l.length, cap⟩; rwa [World.size_alloc] at this, HB.out.alloc HB.out.size _⟩
 case round =>
  obtain ⟨j, hj, rfl, hv, hbx, hown, hb⟩ := hrel
  have HOW := Lib.hid hown
  clear hown
  have HB1 := Lib.hid hb
  have HV1 := Lib.hid hv
  have HBX := Lib.hid hbx
  obtain ⟨e0, e1, e2, e3, e4, e5, ez, el⟩ := ncells hbx
  have hsz := hb.size
  clear hb hv hbx
  by_cases hlt : j < l.length
  · obtain ⟨x, hx⟩ : ∃ x, l[j]? = some x := ⟨_, List.getElem?_eq_getElem hlt⟩
    obtain ⟨b, off, rx, rfl, hbb, hmx, c0, c1, c2, c3, c4, c5⟩ := (HK.out.later HB1.out HBB.out).at hx
    have hb1 : b < wr.heap.size := by omega
    have HX := Lib.hid (show pathL fr to_ l = if (pathV fr to_ x).isEmpty then pathL fr to_ (l.drop (j + 1)) else pathV fr to_ x by rw [HV1.out, drop_at_T hx, pathL])
    have HXC := Lib.hid (kid_cost HC.out (List.mem_of_getElem? hx))
    have HCL := Lib.hid (HI.out x (List.mem_of_getElem? hx) rx wr B hmx (by omega))
    unfold RN.val at HCL
    clear hmx hx
    cases hq : (pathV fr to_ x).isEmpty with
    | true =>
     have hl0 : (pathV fr to_ x).length = 0 := by
      have := List.isEmpty_iff.1 hq; rw [this]; rfl
     rw [hq] at HX
     clear hq
     go_wp2_with (first | (go_at_call 21; refine HCL.out.mono ?_; rintro e w2 ⟨⟨A2, cap2, rs2, rfl, hrow2, hrl2, hn2⟩, hb2⟩; rw [hl0]; have HB2 := Lib.hid (And.intro (nb_below HBX.out hb2) (below_then HB1.out hb2)); have HO2 := Lib.hid (Own.below HOW.out hb2); clear hb2 hn2 hrow2 hrl2))
     go_roundw
     case rel => exact ⟨j + 1, by omega, by go_num, by rw [HX.out]; rfl, HB2.out.1, HO2.out, HB2.out.2⟩
     case measure => simp only [intOf]; omega
    | false =>
     have hl0 : ∃ m, (pathV fr to_ x).length = m ∧ 0 < m ∧ m ≤ 3000 := ⟨_, rfl, by
      cases hp : pathV fr to_ x with
      | nil => rw [hp] at hq; simp at hq
      | cons y ys => simp, Nat.le_trans (path_cost fr to_ x) HXC.out⟩
     obtain ⟨m, hl0, hm0, hm1⟩ := hl0
     rw [hq] at HX
     clear hq
     go_wp2_with (first | (go_at_call 21; refine HCL.out.mono ?_; rintro e w2 ⟨⟨A2, cap2, rs2, rfl, hrow2, hrl2, hn2⟩, hb2⟩; rw [hl0]; have HB2 := Lib.hid (And.intro (nb_below HBX.out hb2) (below_then HB1.out hb2)); have HO2 := Lib.hid (Own.below HOW.out hb2); have HR2 := Lib.hid (And.intro hrow2 (And.intro hrl2 hn2)); obtain ⟨g0, g1, g2, g3, g4, g5, gz, gl⟩ := ncells HB2.out.1; clear hb2 hn2 hrow2 hrl2) | (at_builtin; go_must (refine wpList_append_rows rfl _ _ rfl rfl w2 (w.heap.size + 1) w2.heap.size (.slice (some ⟨w.heap.size + 1, 0, none⟩) 1 1) A2 m cap2 [⟨k, f, en, a, toBA n, some ⟨b, off, none⟩, l.length, cap⟩] rs2 (by rfl) (by rfl) HO2.out (by rw [HR2.out.2.1.1, hl0]) (by rw [HR2.out.2.1.1, hl0]; simp; omega) HR2.out.1 (by omega) (fun hA => by rw [← hl0]; exact HR2.out.2.2 hA) ?_); intro v3 w3 ho3 hg3))
     go_ret
     have HVX : pathV fr to_ (.mk k f en a n l) = .mk k f en a n l :: pathV fr to_ x := by rw [HV.out, HX.out]; rfl
     rw [HVX]
     have hbw : Below w.heap.size w wr := HB1.out
     exact .own ho3 (.cons HM.out (HR2.out.2.1.back (B' := w.heap.size) hbw HBB.out)) (below_grown HB2.out.2 (OwnN.mono HO2.out (B' := w.heap.size) (by omega)) (by omega) hg3)
  · have HV2 := Lib.hid (show pathV fr to_ (.mk k f en a n l) = [.mk k f en a n l] by rw [HV.out, HV1.out, List.drop_of_length_le (by omega)]; rfl)
    go_wp2_with fail
    go_ret
    rw [HV2.out]
    exact .own HOW.out (.cons HM.out .nil_) HB1.out
mutual
theorem path_mem (fr to_ : Int) : ∀ (t x : Tree), x ∈ pathV fr to_ t → costT x ≤ costT t
 | .mk k f e a n l, x, h => by
  rw [pathV] at h
  split at h
  · simp at h
  · rcases List.mem_cons.1 h with rfl | h
    · exact Nat.le_refl _
    · have := pathL_mem fr to_ l x h
      rw [costT]; omega
theorem pathL_mem (fr to_ : Int) : ∀ (l : List Tree) (x : Tree), x ∈ pathL fr to_ l → costT x ≤ costL l
 | [], x, h => by simp [pathL] at h
 | t :: l, x, h => by
  rw [pathL] at h; rw [costL]
  split at h
  · have := pathL_mem fr to_ l x h; omega
  · have := path_mem fr to_ t x h; omega
end
theorem kids_of {W0 W w1 : World} {B : Nat} {A : Option Addr} {L : List Tree} {rs : List RN} (h0 : B ≤ W0.heap.size) (hb1 : Below W.heap.size W w1) (hrow : RowOf RN.cells 6 w1 w1.heap.size A rs) (hrl : ReadL W B L rs) (hW : Below W0.heap.size W0 W := by repeat (first | exact zR _ | assumption | apply zA | apply zD | refine zT ?_ (by assumption))) : KidsM w1 w1.heap.size A L := by
 have h1 := hW.size
 have h2 := hb1.size
 exact ⟨rs, hrow, hrl.1, fun i x rx hx hrx => ((hrl.2 i x rx hx hrx).under hb1 (by omega)).more (by omega)⟩
theorem lawPaths (fr to_ : Int) (t : Tree) (r : RN) (w : World) (hG : LexG w) (hm : NodeM w w.heap.size t r) (hf : fineT t) :
  Calls Tryz.prog 6 #[r.val, .int .i64 fr, .int .i64 to_] w fun e w' => e = .returned (.bool true) ∧ Below w.heap.size w w' := by
 obtain ⟨W0, hW0⟩ : ∃ W0, w.alloc (boxC r) = W0 := ⟨_, rfl⟩
 have HX := Lib.hid (heap_alloc_new w (boxC r))
 have HB := Lib.hid ((Below.refl w.heap.size w).alloc (Nat.le_refl _) (boxC r))
 rw [hW0] at HX HB
 have HM := Lib.hid (fun W (hb : Below W0.heap.size W0 W) => hm.under (below_then HB.out hb) (Nat.le_refl _))
 have HN := Lib.hid (fun W (hb : Below W0.heap.size W0 W) => hm.after (Nat.le_refl _) (below_then HB.out hb))
 have HW := Lib.hid (fun W (hb : Below W0.heap.size W0 W) => aWorks W ((hG.below HB.out).below hb))
 have HF := Lib.hid (fun W (hb : Below W0.heap.size W0 W) => aFew t r W (HN.out W hb) hf)
 have hcost : decide (0 < sizeV 3000 t) = true → costT t ≤ 3000 := fun h => few_cost (of_decide_eq_true h)
 generalize decide (0 < sizeV 3000 t) = d at *
 obtain ⟨-, e0, e1, e2, e3, e4, e5⟩ := box_keep HX.out (Below.refl _ _)
 cases d with
 | false =>
  clear hcost
  unfold RN.val at HF ⊢
  unfold boxC at hW0
  go_enter Tryz.func6, Tryz.ntmps6
  go_wp2_with (first | (go_at_call 11; go_must (refine (HF.out _ (Below.refl _ _)).mono ?_); rintro e wA ⟨rfl, hbA⟩) | (go_at_call 12; go_must (refine (HW.out _ hbA).mono ?_); rintro e wB ⟨rfl, hbB⟩))
  go_ret
  exact ⟨rfl, below_then HB.out (below_then hbA hbB)⟩
 | true =>
  have hc := hcost rfl
  clear hcost
  have HPA := Lib.hid (fun W (hb : Below W0.heap.size W0 W) => aPath fr to_ t r W w.heap.size (HM.out W hb) (below_then HB.out hb).size hc)
  have HPR := Lib.hid (fun W (hb : Below W0.heap.size W0 W) => rPath fr to_ t r W w.heap.size (HM.out W hb) (below_then HB.out hb).size hc)
  have HCO := Lib.hid (fun x hx => Nat.le_trans (path_mem fr to_ t x hx) hc)
  have hle := Nat.le_trans (path_cost fr to_ t) hc
  generalize pathV fr to_ t = L at *
  clear hG hm hf hc
  unfold RN.val at HF HPA HPR ⊢
  unfold boxC at hW0
  go_enter Tryz.func6, Tryz.ntmps6
  go_wp2_with (first | (go_at_call 11; go_must (refine (HF.out _ (Below.refl _ _)).mono ?_); rintro e wA ⟨rfl, hbA⟩; clear e0 e1 e2 e3 e4 e5; obtain ⟨-, e0, e1, e2, e3, e4, e5⟩ := box_keep HX.out hbA))
  have HKP := Lib.hid (fun W' (hBW : Below W0.heap.size W0 W') => (show (zS W0 w.heap.size r) W' from by exact box_keep HX.out hBW))
  refine zHD HKP fun hHeld => ?_
  refine zTk 0 (h := ?_)
  refine zTk 1 (h := ?_)
  refine zTk 2 (h := ?_)
  refine zTk 4 (h := ?_)
  refine zTk 5 (h := ?_)
  refine zTk 6 (h := ?_)
  refine zRd 3 (h := fun KK hKK => ?_)
  go_simp
  (refine ((zb HPA)).mono ?_; rintro e w1 ⟨⟨A, cap, rs, rfl, hrow, hrl, hn⟩, hb1⟩; have HR1 := Lib.hid (kids_of HB.out.size hb1 hrow hrl); clear hrow hrl)
  (try go_wp2_with fail)
  refine zKK hKK HKP fun hHeld2 => ?_; clear hKK KK hHeld; rename _ => hHeld
  refine zRd 7 (h := fun KK hKK => ?_)
  go_simp
  (refine ((zb HPR)).mono ?_; rintro e w2 ⟨⟨A', cap', rs', rfl, hrow', hrl', hn'⟩, hb2⟩; have HR2 := Lib.hid (kids_of HB.out.size hb2 hrow' hrl'); have HR3 := Lib.hid (HR1.out.after (Nat.le_refl _) hb2); clear hrow' hrl')
  (try go_wp2_with fail)
  refine zKK hKK HKP fun hHeld2 => ?_; clear hKK KK hHeld; rename _ => hHeld
  refine zTk 8 (h := ?_)
  refine zTk 9 (h := ?_)
  refine wpAnyH_done (by kernel_rfl) ?_ _
  have HE := Lib.hid hHeld.1
  clear hHeld
  clear hn hn' hb1 hb2 hbA
  go_wp2_with fail
  go_loopw [9] (fun i wr => ∃ j : Nat, j ≤ L.length ∧ i = .int .i64 j ∧ Below w2.heap.size w2 wr) (fun i _ => L.length - (intOf i).toNat)
  case atStart => exact ⟨0, Nat.zero_le _, rfl, Below.refl _ _⟩
  case round =>
   obtain ⟨j, hj, rfl, hb⟩ := hrel
   have HB1 := Lib.hid hb
   have hsz := hb.size
   clear hb
   by_cases hlt : j < L.length
   · obtain ⟨x, hx⟩ : ∃ x, L[j]? = some x := ⟨_, List.getElem?_eq_getElem hlt⟩
     obtain ⟨b, off, rx, rfl, hbb, hmx, c0, c1, c2, c3, c4, c5⟩ := (HR3.out.later HB1.out (Nat.le_refl _)).at hx
     obtain ⟨b', off', ry, rfl, hbb', hmy, d0, d1, d2, d3, d4, d5⟩ := (HR2.out.later HB1.out (Nat.le_refl _)).at hx
     have HC := Lib.hid (fun W (hb : Below wr.heap.size wr W) => rEqual x rx ry W ((hmx.here hsz).after (Nat.le_refl _) hb) ((hmy.here hsz).after (Nat.le_refl _) hb) (HCO.out x (List.mem_of_getElem? hx)))
     have HZ := Lib.hid (fun W' (hBW : Below wr.heap.size wr W') => zW.of (W0 := wr) (by omega) (by omega) ⟨c0, c1, c2, c3, c4, c5⟩ ⟨d0, d1, d2, d3, d4, d5⟩ hBW)
     unfold RN.val at HC
     clear hmx hmy hx
     go_wp2_with fail
     have HKP := Lib.hid (fun W' (hBW : Below wr.heap.size wr W') => (show (zW wr b (off + j * 6) rx b' (off' + j * 6) ry) W' from by exact HZ.out W' hBW))
     refine zHD HKP fun hHeld => ?_
     refine zTk 0 (h := ?_)
     refine zTk 1 (h := ?_)
     refine zTk 2 (h := ?_)
     refine zTk 3 (h := ?_)
     refine zTk 4 (h := ?_)
     refine zTk 5 (h := ?_)
     refine zTk 6 (h := ?_)
     refine zTk 7 (h := ?_)
     refine zRd 8 (h := fun KK hKK => ?_)
     go_simp
     (refine ((zb HC)).mono ?_; rintro e w3 ⟨rfl, hb3⟩)
     (try go_wp2_with fail)
     refine zKK hKK HKP fun hHeld2 => ?_; clear hKK KK hHeld; rename _ => hHeld
     refine zTk 9 (h := ?_)
     refine wpAnyH_done (by kernel_rfl) ?_ _
     have HE2 := Lib.hid (below_then HB1.out hHeld.1)
     clear hHeld
     clear c0 c1 c2 c3 c4 c5 d0 d1 d2 d3 d4 d5
     go_wp2_with fail
     go_roundw
     case rel => exact ⟨j + 1, by omega, by go_num, HE2.out⟩
     case measure => simp only [intOf]; omega
   · go_wp2_with (go_at_call 12; refine (HW.out _ (zT HE.out HB1.out)).mono ?_; rintro e wB ⟨rfl, hbB⟩)
     go_ret
     exact ⟨rfl, below_then HB.out (zT (zT HE.out HB1.out) hbB)⟩
end Go.Proofs.YtacdfjlncfidgaaGreatDoor
