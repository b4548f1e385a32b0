/- emendref07.Sort. -/
import Derived.Test.YtfflfbnnohlipaaAhead
import Derived.Test.YtfflfbnnohlipaaRefWhole
namespace Go.Proofs.Ytfflfbnnohlipaa
open Go.RowKit
set_option linter.unusedVariables false
set_option linter.unusedSimpArgs false
set_option maxRecDepth 100000

/-- How far back a splice goes: behind the last one that it is not ahead of. -/
def backK (out : List Spl) (x : Spl) : Nat → Nat
  | 0 => 0
  | k + 1 => if aheadV x (out[k]?.getD ⟨0, 0, ⟨#[]⟩⟩) = true then backK out x k else k + 1
def insB (out : List Spl) (x : Spl) : List Spl := out.take (backK out x out.length) ++ x :: out.drop (backK out x out.length)
def sortB (l : List Spl) : List Spl := l.foldl insB []
theorem backK_le (out : List Spl) (x : Spl) : ∀ k, backK out x k ≤ k := by
  intro k
  induction k with
  | zero => exact Nat.le_refl _
  | succ k ih => simp only [backK]; split <;> omega
theorem insB_len (out : List Spl) (x : Spl) : (insB out x).length = out.length + 1 := by
  have := backK_le out x out.length
  simp [insB]; omega
theorem sortB_snoc (l : List Spl) (x : Spl) : sortB (l ++ [x]) = insB (sortB l) x := by simp [sortB, List.foldl_append]
theorem sortB_len : ∀ l : List Spl, (sortB l).length = l.length := by
  intro l
  have key : ∀ (l acc : List Spl), (l.foldl insB acc).length = acc.length + l.length := by
    intro l
    induction l with
    | nil => intro acc; simp
    | cons x l ih => intro acc; simp only [List.foldl_cons, ih, insB_len, List.length_cons]; omega
  rw [sortB, key]; simp

/-- append of a row out of memory onto a row of the call's own: what it leaves. -/
theorem run_append_rows (A : Option Addr) (m c : Nat) (V : Value) (l l1 : List Spl) (B B1 : Nat) (w : World) (hV : OwnS w B V l) (hm : m = l1.length) (hl : l.length + l1.length ≤ 1000) (hr : Row w B1 A l1) (hB : B ≤ w.heap.size) (hnil : A = none → m = 0) :
    ∃ v w1, (Builtin.append_ #[22, 22] 22 #[V, .slice A m c]).run Try.prog w = .ok v w1 ∧ OwnS w1 B v (l ++ l1) ∧ w.grownBy w1 V.ownBlock := by
  obtain ⟨i33, hi33, hz0, hz1, hz2⟩ := info_parts Try.info33
  subst hm
  cases A with
  | none =>
    have h0 := hnil rfl
    obtain rfl : l1 = [] := List.eq_nil_of_length_eq_zero h0
    rcases hV.2 with ⟨hv, h0'⟩ | ⟨g, cap, cur, hv, hg1, hg, hc, hcm, hs, ht⟩
    · subst hv
      refine ⟨.slice none 0 0, w, ?_, by rw [List.append_nil]; exact hV, World.grownBy.refl _ _⟩
      simp [Builtin.append_, run_underlying Try.underlying22, sizeOf, typeInfo, zeroValue, hi33, hz0, Builtin.lenOf, run_firstCells_none]
    · subst hv
      refine ⟨.slice (some ⟨g, 0, none⟩) l.length cap, w, ?_, by rw [List.append_nil]; exact hV, World.grownBy.refl _ _⟩
      simp [Builtin.append_, run_underlying Try.underlying22, sizeOf, typeInfo, zeroValue, hi33, hz0, Builtin.lenOf, run_firstCells_none, hc, storeCells]
  | some a =>
    obtain ⟨v, w1, h1, h2, h3, _⟩ := run_append_own_at (P := Try.prog) w B 22 22 33 i33 _ 3 32 Try.underlying22 hi33 hz0 hz1 hz2 rfl (by decide) V l.length (l.flatMap Spl.cells) hV a l1.length c (l1.flatMap Spl.cells) (flat_len Spl.len l1)
      (fun j u hj => by
        obtain ⟨b, off, hA, _, hc⟩ := hr.flat Spl.len (by decide) hj
        injection hA with hA
        subst hA
        rw [Addr.add_lit]
        exact hc) (flat_one Spl.one l1) (by unfold maxLen; omega) (by omega) hB
    refine ⟨v, w1, h1, ?_, h3⟩
    unfold OwnS Own
    rw [List.length_append, List.flatMap_append]
    exact h2

theorem wpList_append_rows {ops : Array Oper} {rest : List Oper} {o : Oper} {a : Act} {Q : Exit → Act → World → Prop} (hgd : o.guard = none) (s x : Operand)
    (ho : o.op = .call { callee := .builtin .append, args := #[s, x], argTypes := #[22, 22] }) (hty : o.type = 22) (W : World) (B B1 : Nat) (V : Value) (A : Option Addr) (m c : Nat) (l l1 : List Spl) (hs : a.eval s = V) (hx : a.eval x = .slice A m c)
    (hV : OwnS W B V l) (hm : m = l1.length) (hl : l.length + l1.length ≤ 1000) (hr : Row W B1 A l1) (hB : B ≤ W.heap.size) (hnil : A = none → m = 0)
    (h : ∀ v' w', OwnS w' B v' (l ++ l1) → W.grownBy w' V.ownBlock → wpList Try.prog ops Q rest (a.put o.dst v') w') : wpList Try.prog ops Q (o :: rest) a W := by
  obtain ⟨v, w1, hrun, h1, h2⟩ := run_append_rows A m c V l l1 B B1 W hV hm hl hr hB hnil
  exact wpList_append_run hgd s x 22 ho W w1 V _ v hs hx (by rw [hty]; exact hrun) (h v w1 h1 h2)

theorem OwnS_nil (X : World) : OwnS X X.heap.size (.slice none 0 0) [] := Own.nil_

theorem sorted_end {k : Nat} {w' : World} {B : Nat} {v : Value} {L : List Spl} (h : OwnS w' B v L) (hL : L.length = k + 1) : ∃ g c1, v = .slice (some ⟨g, 0, none⟩) (k + 1) c1 ∧ k + 1 ≤ c1 ∧ Row w' w'.heap.size (some ⟨g, 0, none⟩) L := by
  obtain ⟨A', c', hv, hr⟩ := Own.row Spl.len h
  rcases h.2 with ⟨_, h0⟩ | ⟨g, cap, cur, hv2, _, _, hc, _⟩
  · omega
  · rw [hv] at hv2
    injection hv2 with a1 a2 a3
    subst a1
    exact ⟨g, c', by rw [hv, hL], by omega, hr⟩

theorem RowOf.drop {α : Type} {cs : α → List Value} {sz : Nat} {w : World} {B : Nat} {b off : Nat} {l : List α} (h : RowOf cs sz w B (some ⟨b, off, none⟩) l) (k : Nat) : RowOf cs sz w B (some ⟨b, off + k * sz, none⟩) (l.drop k) := by
  intro hpos
  rw [List.length_drop] at hpos
  obtain ⟨b', off', e, hb, hc⟩ := h (by omega)
  injection e with e
  injection e with e1 e2 _
  subst e1 e2
  refine ⟨b, off + k * sz, rfl, hb, fun i x hx j u hu => ?_⟩
  rw [List.getElem?_drop] at hx
  have := hc (k + i) x hx j u hu
  rw [Nat.add_mul] at this
  rw [show off + k * sz + i * sz + j = off + (k * sz + i * sz) + j by omega]
  exact this

theorem drop_row {w : World} {B g c1 j : Nat} {out : List Spl} (h : Row w B (some ⟨g, 0, none⟩) out) (hc : out.length ≤ c1) : Row w B (if c1 = j then some ⟨g, 0, none⟩ else some ⟨g, j * 3, none⟩) (out.drop j) := by
  split
  · intro hp; rw [List.length_drop] at hp; omega
  · simpa using RowOf.drop h j

set_option maxHeartbeats 6400000 in
theorem refSort_any (A : Option Addr) (c : Nat) (l : List Spl) (w : World) (hl : l.length ≤ 300) (hr : Row w w.heap.size A l) :
    Calls Try.prog 29 #[.slice A l.length c] w fun e w' => RetRow Spl.cells 3 (sortB l) e w' ∧ Below w.heap.size w w' := by
  obtain ⟨i33, hi33, hz0, hz1, hz2⟩ := info_parts Try.info33
  have HR := Lib.hid hr
  clear hr
  go_enter Try.func29, Try.ntmps29
  go_wp2_with fail
  go_loopw [3, 4] (fun v i wr => ∃ (k : Nat), k ≤ l.length ∧ i = .int .i64 k ∧ ((k = 0 ∧ v = .slice none 0 0) ∨ (∃ g c1, v = .slice (some ⟨g, 0, none⟩) k c1 ∧ k ≤ c1 ∧ Row wr wr.heap.size (some ⟨g, 0, none⟩) (sortB (l.take k)))) ∧ Below w.heap.size w wr) (fun _ i _ => l.length - (intOf i).toNat)
  case atStart => exact ⟨0, Nat.zero_le _, rfl, .inl ⟨rfl, rfl⟩, Below.refl _ _⟩
  case round =>
    obtain ⟨k, hk, rfl, hout, hb⟩ := hrel
    have HB := Lib.hid hb
    have hbs := hb.size
    by_cases hlt : k < l.length
    · obtain ⟨x, hx⟩ := get_some hlt
      obtain ⟨xf, xt, xx⟩ := x
      obtain ⟨b, off, rfl, hbl, h1, h2, h3⟩ := Spl.at_ (HR.out.below hb (Nat.le_refl _)) hx
      dsimp only at h1 h2 h3
      have HSN := Lib.hid (take_snoc hx)
      have hk0 : (0 : Int) ≤ (k : Int) := by omega
      have hk1 : (k : Int) < (l.length : Int) := by omega
      clear hx hb
      have hsl : (sortB (l.take k)).length = k := by rw [sortB_len, List.length_take]; omega
      obtain ⟨wo, rfl⟩ : ∃ wo : World, wo = wr := ⟨_, rfl⟩
      obtain ⟨out, ho⟩ : ∃ out, sortB (l.take k) = out := ⟨_, rfl⟩
      have HOUT := Lib.hid ho
      rw [ho] at hout hsl
      clear ho
      rcases hout with ⟨rfl, rfl⟩ | ⟨g, c1, rfl, hkc, hrow⟩
      · obtain rfl : out = [] := List.eq_nil_of_length_eq_zero hsl
        go_wp2_with fail
        go_loopw [5] (fun u wx => u = .int .i64 0 ∧ Below wo.heap.size wo wx) (fun _ _ => 0)
        case atStart => exact ⟨rfl, Below.refl _ _⟩
        case round =>
          obtain ⟨rfl, hbx⟩ := hrel
          have HBX := Lib.hid hbx
          have hbw : b < wo.heap.size := by omega
          have e1 := (hbx.cell (p := ⟨b, off + 0 * 3, none⟩) hbw).trans h1
          have e2 := (hbx.cell (p := ⟨b, off + 0 * 3 + 1, none⟩) hbw).trans h2
          have e3 := (hbx.cell (p := ⟨b, off + 0 * 3 + 2, none⟩) hbw).trans h3
          clear hbx h1 h2 h3
          go_wp2_with fail
          go_quiet (fail)
          generalize hW : World.drewN _ _ = X
          have hbq : Below wo.heap.size wo X := by rw [← hW]; exact below_draws HBX.out _
          have f1 : X.cell? ⟨b, off, none⟩ = some (.int .i64 xf) := by rw [← hW]; simpa using e1
          have f2 : X.cell? ⟨b, off + 1, none⟩ = some (.int .i64 xt) := by rw [← hW]; simpa using e2
          have f3 : X.cell? ⟨b, off + 2, none⟩ = some (.string xx) := by rw [← hW]; simpa using e3
          clear hW e1 e2 e3
          have hs0 := hbq.size
          have hbX : b < X.heap.size := by omega
          have hn1 := OwnS_nil X
          go_wp2_with (first | (at_builtin; refine wpList_append_rows rfl _ _ rfl rfl X X.heap.size wo.heap.size (.slice none 0 0) _ _ _ [] [] (by rfl) (by rfl) Own.nil_ rfl (by simp) RowOf.nil_ (Nat.le_refl _) (fun _ => rfl) ?_; intro v1 w1 hown1 hg1; rw [List.nil_append] at hown1; have hb1 := below_grown (Below.refl X.heap.size X) hn1 (Nat.le_refl _) hg1; have m1 := (hb1.cell (p := ⟨b, off, none⟩) hbX).trans f1; have m2 := (hb1.cell (p := ⟨b, off + 1, none⟩) hbX).trans f2; have m3 := (hb1.cell (p := ⟨b, off + 2, none⟩) hbX).trans f3; have hs1 := hb1.size) | (at_builtin; refine wpList_append_rec (cs := Spl.cells) rfl _ _ 22 rfl 33 i33 _ 32 Try.underlying22 hi33 hz0 hz1 hz2 rfl (by decide) Spl.len Spl.one w1 X.heap.size _ v1 [] ⟨xf, xt, xx⟩ _ rfl (by rfl) (by rfl) rfl hown1 (by simp [maxLen]) (by simp) hs1 ?_; intro g2 cap2 w2 hown2 hg2 hat2 hltg2; have hb2 := below_grown hb1 hown1 hs1 hg2) | (at_builtin; go_loud (refine wpList_append_rows rfl _ _ rfl rfl w2 X.heap.size wo.heap.size (.slice (some ⟨g2, 0, none⟩) 1 cap2) _ _ _ [⟨xf, xt, xx⟩] [] (by rfl) (by rfl) hown2 rfl (by simp) RowOf.nil_ hb2.size (fun _ => rfl) ?_); intro v3 w3 hown3 hg3))
          go_roundw
          case rel =>
            have hins : [(⟨xf, xt, xx⟩ : Spl)] ++ [] = insB [] ⟨xf, xt, xx⟩ := rfl
            rw [hins] at hown3
            have hb3z := below_grown hb2 hown2 hb2.size hg3
            obtain ⟨g', c', rfl, hcc, hrw⟩ := sorted_end (k := 0) hown3 rfl
            exact ⟨1, by omega, rfl, .inr ⟨g', c', rfl, hcc, by rw [show (1 : Nat) = 0 + 1 from rfl, HSN.out, sortB_snoc, HOUT.out]; exact hrw⟩, HB.out.trans ((hbq.mono hbs).trans (hb3z.mono (Nat.le_trans hbs hs0)))⟩
          case measure => simp [intOf]; omega
      · have HROW := Lib.hid hrow
        have hkc2 : (k : Int) ≤ (c1 : Int) := by omega
        clear hrow
        go_wp2_with fail
        go_loopw [5] (fun u wx => ∃ (j : Nat), j ≤ k ∧ u = .int .i64 j ∧ backK out ⟨xf, xt, xx⟩ k = backK out ⟨xf, xt, xx⟩ j ∧ Below wo.heap.size wo wx) (fun u _ => (intOf u).toNat)
        case atStart => exact ⟨k, Nat.le_refl _, rfl, rfl, Below.refl _ _⟩
        case round =>
          obtain ⟨j, hj, rfl, hbk, hbx⟩ := hrel
          have HBK := Lib.hid hbk
          have HBX := Lib.hid hbx
          have hbxs := hbx.size
          have hbw : b < wo.heap.size := by omega
          have e1 := (hbx.cell (p := ⟨b, off + k * 3, none⟩) hbw).trans h1
          have e2 := (hbx.cell (p := ⟨b, off + k * 3 + 1, none⟩) hbw).trans h2
          have e3 := (hbx.cell (p := ⟨b, off + k * 3 + 2, none⟩) hbw).trans h3
          clear hbk hbx h1 h2 h3
          by_cases hj0 : j = 0
          · have d0 : decide (0 < j) = false := by simp; omega
            have HK := Lib.hid (show backK out ⟨xf, xt, xx⟩ k = j by rw [HBK.out, hj0]; rfl)
            have HJ0 := Lib.hid hj0
            clear hj0
            go_wp2_with fail
            go_quiet (fail)
            generalize hW : World.drewN _ _ = X
            have hbq : Below wo.heap.size wo X := by rw [← hW]; exact below_draws HBX.out _
            have f1 : X.cell? ⟨b, off + k * 3, none⟩ = some (.int .i64 xf) := by rw [← hW]; exact e1
            have f2 : X.cell? ⟨b, off + k * 3 + 1, none⟩ = some (.int .i64 xt) := by rw [← hW]; exact e2
            have f3 : X.cell? ⟨b, off + k * 3 + 2, none⟩ = some (.string xx) := by rw [← hW]; exact e3
            clear hW e1 e2 e3
            have hs0 := hbq.size
            have hbX : b < X.heap.size := by omega
            have HRO := Lib.hid (HROW.out.below hbq (Nat.le_refl _))
            have hn1 := OwnS_nil X
            have hjk : j ≤ k := by omega
            have hjk2 : (j : Int) ≤ (k : Int) := by omega
            have hj00 : (0 : Int) ≤ (j : Int) := by omega
            have hjc : (j : Int) ≤ (c1 : Int) := by omega
            have hjc2 : j ≤ c1 := by omega
            have htl : (out.take j).length = j := by rw [List.length_take]; omega
            have HTL := Lib.hid htl
            clear htl
            go_wp2_with (first | (at_builtin; refine wpList_append_rows rfl _ _ rfl rfl X X.heap.size wo.heap.size (.slice none 0 0) _ _ _ [] (out.take j) (by rfl) (by rfl) Own.nil_ (by rw [HTL.out]) (by rw [HTL.out]; simp; omega) (by exact HRO.out.take j) (Nat.le_refl _) (by intro h; cases h) ?_; intro v1 w1 hown1 hg1; rw [List.nil_append] at hown1; have hb1 := below_grown (Below.refl X.heap.size X) hn1 (Nat.le_refl _) hg1; have m1 := (hb1.cell (p := ⟨b, off + k * 3, none⟩) hbX).trans f1; have m2 := (hb1.cell (p := ⟨b, off + k * 3 + 1, none⟩) hbX).trans f2; have m3 := (hb1.cell (p := ⟨b, off + k * 3 + 2, none⟩) hbX).trans f3; have hs1 := hb1.size) | (at_builtin; refine wpList_append_rec (cs := Spl.cells) rfl _ _ 22 rfl 33 i33 _ 32 Try.underlying22 hi33 hz0 hz1 hz2 rfl (by decide) Spl.len Spl.one w1 X.heap.size _ v1 (out.take j) ⟨xf, xt, xx⟩ _ rfl (by rfl) (by rfl) rfl hown1 (by rw [HTL.out]; unfold maxLen; omega) (by rw [HTL.out]; omega) hs1 ?_; intro g2 cap2 w2 hown2 hg2 hat2 hltg2; rw [HTL.out] at hown2; have hb2 := below_grown hb1 hown1 hs1 hg2) | (at_builtin; go_loud (refine wpList_append_rows rfl _ _ rfl rfl w2 X.heap.size wo.heap.size (.slice (some ⟨g2, 0, none⟩) (j + 1) cap2) _ _ _ (out.take j ++ [⟨xf, xt, xx⟩]) (out.drop j) (by rfl) (by rfl) hown2 (by simp; omega) (by simp; omega) (by exact drop_row (HRO.out.below (hb2.mono hs0) (Nat.le_refl _)) (by omega)) hb2.size (by intro h; split at h <;> cases h) ?_); intro v3 w3 hown3 hg3))
            go_roundw
            case rel =>
              have hins : out.take j ++ [⟨xf, xt, xx⟩] ++ out.drop j = insB out ⟨xf, xt, xx⟩ := by rw [insB, hsl, HK.out]; simp
              rw [hins] at hown3
              have hb3z := below_grown hb2 hown2 hb2.size hg3
              obtain ⟨g', c', rfl, hcc, hrw⟩ := sorted_end (k := k) hown3 (by rw [insB_len, hsl])
              exact ⟨k + 1, by omega, by go_num, .inr ⟨g', c', rfl, hcc, by rw [HSN.out, sortB_snoc, HOUT.out]; exact hrw⟩, HB.out.trans ((hbq.mono hbs).trans (hb3z.mono (Nat.le_trans hbs hs0)))⟩
            case measure => simp [intOf]; omega
          · have d0 : decide (0 < j) = true := by simp; omega
            obtain ⟨y, hy⟩ := get_some (l := out) (k := j - 1) (by omega)
            have hbk2 : backK out ⟨xf, xt, xx⟩ j = if aheadV ⟨xf, xt, xx⟩ y = true then backK out ⟨xf, xt, xx⟩ (j - 1) else j := by
              obtain ⟨q, rfl⟩ : ∃ q, j = q + 1 := ⟨j - 1, by omega⟩
              simp only [Nat.add_sub_cancel] at hy ⊢
              rw [backK, hy]; rfl
            obtain ⟨yf, yt, yx⟩ := y
            obtain ⟨b', off', hA', hbl', g1, g2, g3⟩ := Spl.at_ (HROW.out.below HBX.out (Nat.le_refl _)) hy
            injection hA' with hA'
            injection hA' with a1 a2 _
            subst a1 a2
            dsimp only at g1 g2 g3
            rw [Nat.zero_add] at g1 g2 g3
            have HBK2 := Lib.hid hbk2
            have hj2 : (0 : Int) ≤ (j : Int) - 1 := by omega
            have hj3 : (j : Int) - 1 < (k : Int) := by omega
            have ht : ((j : Int) - 1).toNat = j - 1 := by omega
            have hj5 : (1 : Int) ≤ (j : Int) := by omega
            have hj6 : 1 ≤ j := by omega
            have hj7 : 0 < j := by omega
            have hj8 : (j : Int) ≤ (k : Int) := by omega
            have hj9 : (j : Int) < (k : Int) + 1 := by omega
            have hwj : IntKind.i64.wrap ((j : Int) - 1) = (j : Int) - 1 := Go.IntWalk.i64_in _ (by omega)
            have hlt1 : b < wr.heap.size := by omega
            have hlt2 : g < wr.heap.size := by omega
            have HAH := Lib.hid (ahead_any ⟨xf, xt, xx⟩ ⟨yf, yt, yx⟩ wr.drew)
            dsimp only at HAH
            clear hy hbk2
            cases hav : aheadV ⟨xf, xt, xx⟩ ⟨yf, yt, yx⟩
            · have HAV := Lib.hid hav
              clear hav
              go_wp2_with fail
              go_region_held3 (fun w' => w'.cell? ⟨b, off + k * 3, none⟩ = some (.int .i64 xf) ∧ w'.cell? ⟨b, off + k * 3 + 1, none⟩ = some (.int .i64 xt) ∧ w'.cell? ⟨b, off + k * 3 + 2, none⟩ = some (.string xx) ∧ w'.cell? ⟨g, (j - 1) * 3, none⟩ = some (.int .i64 yf) ∧ w'.cell? ⟨g, (j - 1) * 3 + 1, none⟩ = some (.int .i64 yt) ∧ w'.cell? ⟨g, (j - 1) * 3 + 2, none⟩ = some (.string yx))
                (first
                  | go_keep
                  | exact ⟨(hb3.cell (p := ⟨b, off + k * 3, none⟩) hlt1).trans e1, (hb3.cell (p := ⟨b, off + k * 3 + 1, none⟩) hlt1).trans e2, (hb3.cell (p := ⟨b, off + k * 3 + 2, none⟩) hlt1).trans e3, (hb3.cell (p := ⟨g, (j - 1) * 3, none⟩) hlt2).trans g1, (hb3.cell (p := ⟨g, (j - 1) * 3 + 1, none⟩) hlt2).trans g2, (hb3.cell (p := ⟨g, (j - 1) * 3 + 2, none⟩) hlt2).trans g3⟩)
                (first | (go_at_call 46; refine HAH.out.mono ?_; rw [HAV.out]; rintro e w3 ⟨rfl, hb3⟩))
              obtain ⟨X, rfl⟩ : ∃ X : World, X = w3 := ⟨_, rfl⟩
              have hbq : Below wo.heap.size wo X := (HBX.out.drew).trans (hb3.mono hbxs)
              have f1 := (hb3.cell (p := ⟨b, off + k * 3, none⟩) hlt1).trans e1
              have f2 := (hb3.cell (p := ⟨b, off + k * 3 + 1, none⟩) hlt1).trans e2
              have f3 := (hb3.cell (p := ⟨b, off + k * 3 + 2, none⟩) hlt1).trans e3
              have HK := Lib.hid (show backK out ⟨xf, xt, xx⟩ k = j by rw [HBK.out, HBK2.out, HAV.out]; rfl)
              clear hb3 e1 e2 e3 g1 g2 g3
              have hs0 := hbq.size
              have hbX : b < X.heap.size := by omega
              have HRO := Lib.hid (HROW.out.below hbq (Nat.le_refl _))
              have hn1 := OwnS_nil X
              have hjk : j ≤ k := by omega
              have hjk2 : (j : Int) ≤ (k : Int) := by omega
              have hj00 : (0 : Int) ≤ (j : Int) := by omega
              have hjc : (j : Int) ≤ (c1 : Int) := by omega
              have hjc2 : j ≤ c1 := by omega
              have htl : (out.take j).length = j := by rw [List.length_take]; omega
              have HTL := Lib.hid htl
              clear htl
              go_wp2_with (first | (at_builtin; refine wpList_append_rows rfl _ _ rfl rfl X X.heap.size wo.heap.size (.slice none 0 0) _ _ _ [] (out.take j) (by rfl) (by rfl) Own.nil_ (by rw [HTL.out]) (by rw [HTL.out]; simp; omega) (by exact HRO.out.take j) (Nat.le_refl _) (by intro h; cases h) ?_; intro v1 w1 hown1 hg1; rw [List.nil_append] at hown1; have hb1 := below_grown (Below.refl X.heap.size X) hn1 (Nat.le_refl _) hg1; have m1 := (hb1.cell (p := ⟨b, off + k * 3, none⟩) hbX).trans f1; have m2 := (hb1.cell (p := ⟨b, off + k * 3 + 1, none⟩) hbX).trans f2; have m3 := (hb1.cell (p := ⟨b, off + k * 3 + 2, none⟩) hbX).trans f3; have hs1 := hb1.size) | (at_builtin; refine wpList_append_rec (cs := Spl.cells) rfl _ _ 22 rfl 33 i33 _ 32 Try.underlying22 hi33 hz0 hz1 hz2 rfl (by decide) Spl.len Spl.one w1 X.heap.size _ v1 (out.take j) ⟨xf, xt, xx⟩ _ rfl (by rfl) (by rfl) rfl hown1 (by rw [HTL.out]; unfold maxLen; omega) (by rw [HTL.out]; omega) hs1 ?_; intro g2 cap2 w2 hown2 hg2 hat2 hltg2; rw [HTL.out] at hown2; have hb2 := below_grown hb1 hown1 hs1 hg2) | (at_builtin; go_loud (refine wpList_append_rows rfl _ _ rfl rfl w2 X.heap.size wo.heap.size (.slice (some ⟨g2, 0, none⟩) (j + 1) cap2) _ _ _ (out.take j ++ [⟨xf, xt, xx⟩]) (out.drop j) (by rfl) (by rfl) hown2 (by simp; omega) (by simp; omega) (by exact drop_row (HRO.out.below (hb2.mono hs0) (Nat.le_refl _)) (by omega)) hb2.size (by intro h; split at h <;> cases h) ?_); intro v3 w3 hown3 hg3))
              go_roundw
              case rel =>
                have hins : out.take j ++ [⟨xf, xt, xx⟩] ++ out.drop j = insB out ⟨xf, xt, xx⟩ := by rw [insB, hsl, HK.out]; simp
                rw [hins] at hown3
                have hb3z := below_grown hb2 hown2 hb2.size hg3
                obtain ⟨g', c', rfl, hcc, hrw⟩ := sorted_end (k := k) hown3 (by rw [insB_len, hsl])
                exact ⟨k + 1, by omega, by go_num, .inr ⟨g', c', rfl, hcc, by rw [HSN.out, sortB_snoc, HOUT.out]; exact hrw⟩, HB.out.trans ((hbq.mono hbs).trans (hb3z.mono (Nat.le_trans hbs hs0)))⟩
              case measure => simp [intOf]; omega
            · have HAV := Lib.hid hav
              clear hav
              go_wp2_with fail
              go_region_held3 (fun w' => w'.cell? ⟨b, off + k * 3, none⟩ = some (.int .i64 xf) ∧ w'.cell? ⟨b, off + k * 3 + 1, none⟩ = some (.int .i64 xt) ∧ w'.cell? ⟨b, off + k * 3 + 2, none⟩ = some (.string xx) ∧ w'.cell? ⟨g, (j - 1) * 3, none⟩ = some (.int .i64 yf) ∧ w'.cell? ⟨g, (j - 1) * 3 + 1, none⟩ = some (.int .i64 yt) ∧ w'.cell? ⟨g, (j - 1) * 3 + 2, none⟩ = some (.string yx))
                (first
                  | go_keep
                  | exact ⟨(hb3.cell (p := ⟨b, off + k * 3, none⟩) hlt1).trans e1, (hb3.cell (p := ⟨b, off + k * 3 + 1, none⟩) hlt1).trans e2, (hb3.cell (p := ⟨b, off + k * 3 + 2, none⟩) hlt1).trans e3, (hb3.cell (p := ⟨g, (j - 1) * 3, none⟩) hlt2).trans g1, (hb3.cell (p := ⟨g, (j - 1) * 3 + 1, none⟩) hlt2).trans g2, (hb3.cell (p := ⟨g, (j - 1) * 3 + 2, none⟩) hlt2).trans g3⟩)
                (first | (go_at_call 46; refine HAH.out.mono ?_; rw [HAV.out]; rintro e w3 ⟨rfl, hb3⟩))
              have hb3' := Lib.hid hb3
              clear hb3
              go_wp2
              go_roundw
              case rel => exact ⟨j - 1, by omega, by go_num, by rw [HBK.out, HBK2.out, HAV.out]; rfl, (HBX.out.drew).trans (hb3'.out.mono hbxs)⟩
              case measure => simp [intOf]; omega
    · obtain rfl : k = l.length := by omega
      rw [List.take_length] at hout
      rcases hout with ⟨h0, rfl⟩ | ⟨g, c1, rfl, hkc, hrow⟩
      · obtain rfl : l = [] := List.eq_nil_of_length_eq_zero h0
        go_wp2
        go_ret
        exact ⟨⟨none, 0, rfl, RowOf.nil_⟩, HB.out⟩
      · have HROW := Lib.hid hrow
        clear hrow
        go_wp2
        go_ret
        exact ⟨⟨some ⟨g, 0, none⟩, c1, by rw [sortB_len]; rfl, HROW.out⟩, HB.out⟩
end Go.Proofs.Ytfflfbnnohlipaa
