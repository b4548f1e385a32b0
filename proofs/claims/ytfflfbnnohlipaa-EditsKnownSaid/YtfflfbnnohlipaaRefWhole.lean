/- emendref07.Whole. -/
import Derived.Test.YtfflfbnnohlipaaRefApply
import Derived.Test.YtfflfbnnohlipaaFound
import Derived.Deep.RegionHeld3
namespace Go.Proofs.Ytfflfbnnohlipaa
open Go.RowKit
set_option linter.unusedVariables false
set_option linter.unusedSimpArgs false

theorem wpList_append_run {P : Program} {ops : Array Oper} {rest : List Oper} {o : Oper} {a : Act} {Q : Exit → Act → World → Prop} (hgd : o.guard = none) (s x : Operand) (t : TypeId)
    (ho : o.op = .call { callee := .builtin .append, args := #[s, x], argTypes := #[t, t] }) (W w1 : World) (V X v : Value) (hs : a.eval s = V) (hx : a.eval x = X)
    (hrun : (Builtin.append_ #[t, t] o.type #[V, X]).run P W = .ok v w1) (h : wpList P ops Q rest (a.put o.dst v) w1) : wpList P ops Q (o :: rest) a W := by
  refine wpList_plain hgd fun K hK => ?_
  unfold Oper.wp execOp
  simp only [ho, resolve, invoke, builtin, Sem.run_bind, Sem.run_pure, Result.andThen_ok, List.map_toArray, List.map_cons, List.map_nil, hs, hx, hrun]
  exact hK _ _ h

set_option maxRecDepth 100000 in
theorem append_docs (A : Option Addr) (c : Nat) (docs : List Dc) (w : World) (hl : docs.length ≤ 1000) (hr : RowOf Dc.cells 3 w w.heap.size A docs) (hnil : A = none → docs.length = 0 ∧ c = 0) :
    ∃ v w1, (Builtin.append_ #[38, 38] 38 #[.slice none 0 0, .slice A docs.length c]).run Try.prog w = .ok v w1 ∧ Own Dc.cells 3 43 w1 w.heap.size v docs ∧ Below w.heap.size w w1 := by
  obtain ⟨i43, hi43, hz0, hz1, hz2⟩ := info_parts Try.info43
  cases A with
  | none =>
    obtain ⟨h0, rfl⟩ := hnil rfl
    obtain rfl : docs = [] := List.eq_nil_of_length_eq_zero h0
    refine ⟨.slice none 0 0, w, ?_, Own.nil_, Below.refl _ _⟩
    simp [Builtin.append_, run_underlying Try.underlying38, sizeOf, typeInfo, zeroValue, hi43, hz0, Builtin.lenOf, run_firstCells_none]
  | some a =>
    obtain ⟨v, w1, h1, h2, h3, _⟩ := run_append_own_at (P := Try.prog) w w.heap.size 38 38 43 i43 _ 3 40 Try.underlying38 hi43 hz0 hz1 hz2 rfl (by decide) (.slice none 0 0) 0 [] (World.ownsRow_nil w _ _ _) a docs.length c (docs.flatMap Dc.cells) (flat_len Dc.len docs)
      (fun j u hj => by
        obtain ⟨b, off, hA, _, hc⟩ := hr.flat Dc.len (by decide) hj
        injection hA with hA
        subst hA
        rw [Addr.add_lit]
        exact hc) (flat_one Dc.one docs) (by unfold maxLen; omega) (by omega) (Nat.le_refl _)
    refine ⟨v, w1, h1, ?_, ?_⟩
    · unfold Own; simpa using h2
    · exact below_grown (l := ([] : List Dc)) (cs := Dc.cells) (sz := 3) (e := 43) (Below.refl _ _) Own.nil_ (Nat.le_refl _) h3

theorem str_neb {a b : ByteArray} (h : ¬ a = b) : (a.toList == b.toList) = false := by simpa using str_ne h

theorem any_snoc {l : List RDe} {q : Nat} {y : RDe} {u : ByteArray} (hy : l[q]? = some y) (h : (l.take q).any (fun z => decide (z.uri = u)) = false) (hn : ¬ y.uri = u) : (l.take (q + 1)).any (fun z => decide (z.uri = u)) = false := by
  rw [take_snoc hy, List.any_append, h]; simp [hn]
theorem any_hit {l : List RDe} {q k : Nat} {y : RDe} {u : ByteArray} (hy : l[q]? = some y) (hq : q < k) (h : y.uri = u) : (l.take k).any (fun z => decide (z.uri = u)) = true :=
  List.any_eq_true.2 ⟨y, List.mem_of_getElem? (i := q) (by rw [List.getElem?_take, if_pos hq]; exact hy), by simpa using h⟩

theorem first_none {docs : List Dc} {u : ByteArray} (h : ∀ (j : Nat) (d : Dc), docs[j]? = some d → ¬ d.uri = u) : firstAt docs u = none := by
  rw [firstAt, List.findIdx?_eq_none_iff]
  intro x hx
  obtain ⟨j, hj⟩ := List.mem_iff_getElem?.1 hx
  simpa using h j x hj
theorem first_some {docs : List Dc} {u : ByteArray} {q : Nat} {d : Dc} (hd : docs[q]? = some d) (hu : d.uri = u) (h : ∀ (j : Nat) (e : Dc), j < q → docs[j]? = some e → ¬ e.uri = u) : firstAt docs u = some q := by
  rw [firstAt, List.findIdx?_eq_some_iff_getElem]
  obtain ⟨hq, he⟩ := List.getElem?_eq_some_iff.1 hd
  refine ⟨hq, by rw [he]; simpa using hu, fun j hj => ?_⟩
  have hjl : j < docs.length := by omega
  have := h j _ hj (List.getElem?_eq_getElem hjl)
  simpa using this

theorem step_twice {docs : List Dc} {pre : List RDe} {x : RDe} {out : List Dc} (h : pre.any (fun y => decide (y.uri = x.uri)) = true) : stepW docs pre x out = .error 13 := by simp [stepW, h]
theorem step_gone {docs : List Dc} {pre : List RDe} {x : RDe} {out : List Dc} (h : pre.any (fun y => decide (y.uri = x.uri)) = false) (h1 : firstAt docs x.uri = none) : stepW docs pre x out = .error 5 := by
  rw [stepW, if_neg (by rw [h]; decide), h1]
theorem step_ver {docs : List Dc} {pre : List RDe} {x : RDe} {out : List Dc} {i : Nat} {d : Dc} (h : pre.any (fun y => decide (y.uri = x.uri)) = false) (h1 : firstAt docs x.uri = some i) (hd : docs[i]? = some d) (h2 : ¬ d.ver = x.ver) : stepW docs pre x out = .error 18 := by
  rw [stepW, if_neg (by rw [h]; decide), h1]
  simp [hd, h2]
theorem step_unfit {docs : List Dc} {pre : List RDe} {x : RDe} {out : List Dc} {i : Nat} {d : Dc} (h : pre.any (fun y => decide (y.uri = x.uri)) = false) (h1 : firstAt docs x.uri = some i) (hd : docs[i]? = some d) (h2 : d.ver = x.ver) (h3 : ¬ applyE d.text x.spl = 0) :
    stepW docs pre x out = .error (applyE d.text x.spl) := by
  rw [stepW, if_neg (by rw [h]; decide), h1]
  simp [hd, h2, h3]
theorem step_done {docs : List Dc} {pre : List RDe} {x : RDe} {out : List Dc} {i : Nat} {d : Dc} (h : pre.any (fun y => decide (y.uri = x.uri)) = false) (h1 : firstAt docs x.uri = some i) (hd : docs[i]? = some d) (h2 : d.ver = x.ver) (h3 : applyE d.text x.spl = 0) :
    stepW docs pre x out = .ok (setText out i (applyB d.text x.spl)) := by
  rw [stepW, if_neg (by rw [h]; decide), h1]
  simp [hd, h2, h3]

set_option maxRecDepth 100000 in
set_option maxHeartbeats 6400000 in
theorem refWhole_any (A : Option Addr) (c : Nat) (docs : List Dc) (A2 : Option Addr) (c2 : Nat) (l : List RDe) (w : World) (hf : FineW docs l) (hr : RowOf Dc.cells 3 w w.heap.size A docs) (hr2 : RowOf RDe.cells 3 w w.heap.size A2 l)
    (hd : DeepE w w.heap.size l) (hnil : A = none → docs.length = 0 ∧ c = 0) :
    Calls Try.prog 20 #[.slice A docs.length c, .slice A2 l.length c2] w fun e w' => RetWhole docs l e w' ∧ Below w.heap.size w w' := by
  obtain ⟨v, w1, happ, hown, hb1⟩ := append_docs A c docs w hf.1 hr hnil
  have HR := Lib.hid hr
  have HR2 := Lib.hid hr2
  have HD := Lib.hid hd
  have HF := Lib.hid hf
  have HO := Lib.hid hown
  have HB1 := Lib.hid hb1
  have HAP := Lib.hid happ
  have hll := hf.2.1
  have hdl := hf.1
  clear hr hr2 hd hf hnil hown happ hb1
  go_enter Try.func20, Try.ntmps20
  go_wp2_with (at_builtin; go_must (refine wpList_append_run rfl _ _ 38 rfl w w1 (.slice none 0 0) (.slice A docs.length c) v (by rfl) (by rfl) HAP.out ?_))
  go_loopw [7] (fun i wr => ∃ (k : Nat) (out : List Dc), k ≤ l.length ∧ i = .int .i64 k ∧ wholeV docs l = wholeR docs (l.take k) (l.drop k) out ∧ out.length = docs.length ∧ Own Dc.cells 3 43 wr w.heap.size v out ∧ Below w.heap.size w wr) (fun i _ => l.length - (intOf i).toNat)
  case atStart => exact ⟨0, docs, Nat.zero_le _, rfl, rfl, rfl, HO.out, HB1.out⟩
  case round =>
    clear HO HB1 HAP
    obtain ⟨k, out, hk, rfl, hw, hol, hown, hb⟩ := hrel
    have HW := Lib.hid hw
    have HOL := Lib.hid hol
    have HO := Lib.hid hown
    have HB := Lib.hid hb
    have hbs := hb.size
    clear hw hol hown hb
    by_cases hlt : k < l.length
    · obtain ⟨x, hx⟩ := get_some hlt
      obtain ⟨xu, xv, xA, xc, xs⟩ := x
      obtain ⟨b, off, hA, hbl, h1, h2, h3⟩ := row3_at (HR2.out.below HB.out (Nat.le_refl _)) hx rfl
      have hxm := List.mem_of_getElem? hx
      have HX := Lib.hid hx
      have HXM := Lib.hid hxm
      subst hA
      have hk0 : (0 : Int) ≤ (k : Int) := by omega
      have hk1 : (k : Int) < (l.length : Int) := by omega
      clear hx hxm
      obtain ⟨wo, rfl⟩ : ∃ wo : World, wo = wr := ⟨_, rfl⟩
      go_wp2_with fail
      go_loopw [8] (fun j wx => ∃ (q : Nat), q ≤ k ∧ j = .int .i64 q ∧ (l.take q).any (fun y => decide (y.uri = xu)) = false ∧ Below wo.heap.size wo wx) (fun j _ => k - (intOf j).toNat)
      case atStart => exact ⟨0, Nat.zero_le _, rfl, rfl, Below.refl _ _⟩
      case round =>
        obtain ⟨q, hq, rfl, hno, hbx⟩ := hrel
        have HNO := Lib.hid hno
        have HBX := Lib.hid hbx
        have k1 := (hbx.cell (p := ⟨b, off + k * 3, none⟩) (by simp only []; omega)).trans h1
        clear hno hbx
        by_cases hqk : q < k
        · obtain ⟨y, hy⟩ := get_some (l := l) (k := q) (by omega)
          obtain ⟨yu, yv, yA, yc, ys⟩ := y
          obtain ⟨b', off', hA', hbl', g1, g2, g3⟩ := row3_at ((HR2.out.below HB.out (Nat.le_refl _)).below HBX.out hbs) hy rfl
          injection hA' with hA'
          injection hA' with e1 e2 _
          subst e1 e2
          have HY := Lib.hid hy
          have hq0 : (0 : Int) ≤ (q : Int) := by omega
          have hq1 : (q : Int) < (l.length : Int) := by omega
          clear hy h1 h2 h3
          by_cases hu : yu = xu
          · subst hu
            go_wp2_with (go_quiet (fail))
            go_ret2
            exact ⟨.inr ⟨13, wholeR_err HX.out HW.out (step_twice (any_hit HY.out hqk rfl)), rfl⟩, below_draws (HB.out.trans (HBX.out.mono hbs)) _⟩
          · have hu2 := str_neb hu
            go_wp2_with (go_quiet (fail))
            go_roundw
            case rel => exact ⟨q + 1, by omega, by go_num, any_snoc HY.out HNO.out hu, below_draws HBX.out _⟩
            case measure => simp [intOf]; omega
        · obtain rfl : q = k := by omega
          have HB2 := Lib.hid (HB.out.trans (HBX.out.mono hbs))
          have HO2 := Lib.hid (Own.below HO.out HBX.out)
          have hbs2 := HB2.out.size
          clear HB HO hbs HBX h1 h2 h3 k1
          obtain ⟨wp, rfl⟩ : ∃ wp : World, wp = wr := ⟨_, rfl⟩
          go_wp2_with fail
          go_loopw [9] (fun j wx => ∃ (p : Nat), p ≤ docs.length ∧ j = .int .i64 p ∧ (∀ (j : Nat) (e : Dc), j < p → docs[j]? = some e → ¬ e.uri = xu) ∧ Below wp.heap.size wp wx) (fun j _ => docs.length - (intOf j).toNat)
          case atStart => exact ⟨0, Nat.zero_le _, rfl, fun j e h => absurd h (Nat.not_lt_zero _), Below.refl _ _⟩
          case round =>
            obtain ⟨p, hp, rfl, hfirst, hbx⟩ := hrel
            have HFI := Lib.hid hfirst
            have HBX := Lib.hid hbx
            have hbxs := hbx.size
            clear hfirst hbx
            obtain ⟨b2, off2, hA2, hbl2, h1, h2, h3⟩ := row3_at ((HR2.out.below HB2.out (Nat.le_refl _)).below HBX.out hbs2) HX.out rfl
            injection hA2 with hA2
            injection hA2 with e1 e2 _
            subst e1 e2
            by_cases hpd : p < docs.length
            · obtain ⟨d, hd⟩ := get_some hpd
              obtain ⟨du, dt, dv⟩ := d
              obtain ⟨b', off', hA', hbl', g1, g2, g3⟩ := row3_at ((HR.out.below HB2.out (Nat.le_refl _)).below HBX.out hbs2) hd rfl
              have HDK := Lib.hid hd
              subst hA'
              have hp0 : (0 : Int) ≤ (p : Int) := by omega
              have hp1 : (p : Int) < (docs.length : Int) := by omega
              have t1 : decide (p < docs.length) = true := by simpa using hpd
              clear hd
              by_cases hu : du = xu
              · subst hu
                have HFS := Lib.hid (first_some HDK.out rfl fun j e hj he => HFI.out j e hj he)
                have hdl2 := ((HF.out).2.2.1 _ (List.mem_of_getElem? HDK.out)).1
                have hxs := HF.out.2.2.2 _ HXM.out
                dsimp only at hdl2 hxs
                have HXS := Lib.hid hxs
                clear hxs
                by_cases hv : dv = xv
                · subst hv
                  go_wp2_with (go_quiet (fail))
                  generalize hWq : World.drewN _ _ = wq
                  have hbq : Below wp.heap.size wp wq := by rw [← hWq]; first | exact below_draws HBX.out _ | exact below_draws (below_draws HBX.out _) _ | exact below_draws (below_draws (below_draws HBX.out _) _) _
                  clear hWq
                  clear h1 h2 h3 g1 g2 g3
                  obtain ⟨b2, off2, hA2, hbl2, h1, h2, h3⟩ := row3_at ((HR2.out.below HB2.out (Nat.le_refl _)).below hbq hbs2) HX.out rfl
                  injection hA2 with hA2
                  injection hA2 with e1 e2 _
                  subst e1 e2
                  obtain ⟨b3, off3, hA3, hbl3, g1, g2, g3⟩ := row3_at ((HR.out.below HB2.out (Nat.le_refl _)).below hbq hbs2) HDK.out rfl
                  injection hA3 with hA3
                  injection hA3 with e1 e2 _
                  subst e1 e2
                  have hqs := hbq.size
                  have hlt1 : b' < wq.heap.size := by omega
                  have hlt2 : b < wq.heap.size := by omega
                  have hrow : RowOf Spl.cells 3 wq.drew wq.drew.heap.size xA xs := (((HD.out _ HXM.out).below HB2.out (Nat.le_refl _)).below hbq hbs2).more (Nat.le_trans hbs2 hbq.size)
                  have HAPP := Lib.hid (refApply_any xA xc xs dt wq.drew (by have := HXS.out.1; omega) (by omega) (fun y hy => by have := HXS.out.2.1 y hy; omega) hrow)
                  have HSD := Lib.hid (step_done (x := ⟨du, dv, xA, xc, xs⟩) (out := out) HNO.out HFS.out HDK.out rfl)
                  have HSU := Lib.hid (step_unfit (x := ⟨du, dv, xA, xc, xs⟩) (out := out) HNO.out HFS.out HDK.out rfl)
                  dsimp only at HSD HSU
                  obtain ⟨E, hE⟩ : ∃ E, applyE dt xs = E := ⟨_, rfl⟩
                  obtain ⟨S1, hS1⟩ : ∃ S1, applyB dt xs = S1 := ⟨_, rfl⟩
                  have HE1 := Lib.hid hE
                  have HS1 := Lib.hid hS1
                  clear hrow hE hS1 hdl2
                  by_cases hE0 : E = 0
                  · subst hE0
                    go_region_held3 (fun w' => w'.cell? ⟨b', off' + p * 3 + 1, none⟩ = some (.string dt) ∧ w'.cell? ⟨b, off + q * 3 + 2, none⟩ = some (.slice xA xs.length xc))
                      (first
                        | go_keep
                        | exact ⟨(hb3.cell (p := ⟨b', off' + p * 3 + 1, none⟩) hlt1).trans g2, (hb3.cell (p := ⟨b, off + q * 3 + 2, none⟩) hlt2).trans h3⟩)
                      (first | (go_at_call 26; refine HAPP.out.mono ?_; rintro e w3 ⟨hret, hb3⟩; rw [RetApply, HE1.out, HS1.out] at hret; subst hret))
                    have HB3 := Lib.hid ((HB2.out.trans (hbq.mono hbs2)).drew.trans (hb3.mono (Nat.le_trans hbs2 hbq.size)))
                    have hown3 := Own.below (Own.drew (Own.below HO2.out hbq)) hb3
                    obtain ⟨A1, c1, rfl, _⟩ := Own.row Dc.len hown3
                    have hpo : p < out.length := by rw [HOL.out]; exact hpd
                    obtain ⟨o, ho⟩ := get_some hpo
                    obtain ⟨g, rfl, hgB, k1, k2, hown4⟩ := own_setText hown3 ho S1
                    have hpo2 : (p : Int) < (out.length : Int) := by omega
                    have HO4 := Lib.hid hown4
                    clear hb3 hown3 hown4 ho hpo
                    go_wp2
                    go_roundw
                    case rel => exact ⟨q + 1, setText out p S1, by omega, by go_num, by rw [← HS1.out]; exact wholeR_step HX.out HW.out (HSD.out HE1.out), by rw [setText_len, HOL.out], HO4.out, HB3.out.setCell (p := ⟨g, p * 3 + 1, none⟩) hgB _⟩
                    case measure => simp [intOf]; omega
                  · have hne : (E != 0) = true := by simpa using hE0
                    go_region_held3 (fun w' => w'.cell? ⟨b', off' + p * 3 + 1, none⟩ = some (.string dt) ∧ w'.cell? ⟨b, off + q * 3 + 2, none⟩ = some (.slice xA xs.length xc))
                      (first
                        | go_keep
                        | exact ⟨(hb3.cell (p := ⟨b', off' + p * 3 + 1, none⟩) hlt1).trans g2, (hb3.cell (p := ⟨b, off + q * 3 + 2, none⟩) hlt2).trans h3⟩)
                      (first | (go_at_call 26; refine HAPP.out.mono ?_; rintro e w3 ⟨hret, hb3⟩; rw [RetApply, HE1.out, HS1.out] at hret; subst hret))
                    have HB3 := Lib.hid ((HB2.out.trans (hbq.mono hbs2)).drew.trans (hb3.mono (Nat.le_trans hbs2 hbq.size)))
                    clear hb3
                    go_wp2
                    go_ret2
                    exact ⟨.inr ⟨E, by rw [← HE1.out]; exact wholeR_err HX.out HW.out (HSU.out (by rw [HE1.out]; exact hE0)), rfl⟩, HB3.out⟩
                · have hv2 : decide (dv = xv) = false := by simpa using hv
                  go_wp2_with (go_quiet (fail))
                  go_ret2
                  exact ⟨.inr ⟨18, wholeR_err HX.out HW.out (step_ver HNO.out HFS.out HDK.out hv), rfl⟩, below_draws (HB2.out.trans (HBX.out.mono hbs2)) _⟩
              · have hu2 := str_neb hu
                go_wp2_with (go_quiet (fail))
                go_roundw
                case rel => exact ⟨p + 1, by omega, by go_num, fun j e hj he => by
                  rcases Nat.lt_or_ge j p with h | h
                  · exact HFI.out j e h he
                  · obtain rfl : j = p := by omega
                    rw [HDK.out] at he
                    cases he
                    exact hu, below_draws HBX.out _⟩
                case measure => simp [intOf]; omega
            · obtain rfl : p = docs.length := by omega
              have t1 : decide (docs.length < docs.length) = false := by simp
              go_wp2_with (go_quiet (fail))
              go_ret2
              exact ⟨.inr ⟨5, wholeR_err HX.out HW.out (step_gone HNO.out (first_none fun j d hd => HFI.out j d (by
                rcases Nat.lt_or_ge j docs.length with h | h
                · exact h
                · rw [List.getElem?_eq_none h] at hd; cases hd) hd)), rfl⟩, below_draws (HB2.out.trans (HBX.out.mono hbs2)) _⟩
    · obtain rfl : k = l.length := by omega
      have hw2 := HW.out
      rw [List.take_length, List.drop_length, wholeR] at hw2
      obtain ⟨A1, c1, rfl, hrow⟩ := Own.row Dc.len HO.out
      have HW2 := Lib.hid hw2
      have HROW := Lib.hid hrow
      clear hw2 hrow
      go_wp2
      go_ret2
      exact ⟨.inl ⟨out, HW2.out, HOL.out, A1, c1, rfl, HROW.out⟩, HB.out⟩
end Go.Proofs.Ytfflfbnnohlipaa
