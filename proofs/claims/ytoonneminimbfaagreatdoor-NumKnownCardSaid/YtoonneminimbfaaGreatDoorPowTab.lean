/- The great tables of powers of ten, out of what the rows list. -/
import Derived.Test.YtoonneminimbfaaGreatDoorGlob
namespace Go.Proofs.YtoonneminimbfaaGreatDoor
open Go.RowKit Go.Lib
set_option linter.unusedVariables false
set_option linter.unusedSimpArgs false

theorem int_of_trod {w : World} {t : TypeId} {k : IntKind} {fuel : Nat} {cs : List Value} {b : DataW Unit × List MemPlace} {z : Int} (ht : Tryz.prog.underlying t = some (.int k))
    (h : DataW.trod (fun _ => ()) Tryz.prog w 0 (fun _ => true) false fuel t cs = some b) (hb : b.1 = .lit (.int k z)) : cs = [.int k z] := by
  obtain ⟨a, hc, rfl, _⟩ := DataW.trod_int ht h
  simp only [DataW.lit.injEq, Lit.int.injEq, true_and] at hb
  rw [hc, hb]
theorem take_get {cs : List Value} {i n : Nat} {l : List Value} {j : Nat} {v : Value} (h : (cs.drop i).take n = l) (hj : l[j]? = some v) : cs[i + j]? = some v := by
  subst h
  rw [List.getElem?_take] at hj
  split at hj
  · rw [List.getElem?_drop] at hj; exact hj
  · cases hj
/-- What stands in the table of powers of ten, as two words. -/
theorem powTab_of {w : World} (h : VarReads Tryz.prog w "internal/strconv.pow10Tab" Go.Pinned.pow10Tab) (i : Nat) (x : Nat × Nat) (hx : Go.Pinned.pow10Rows[i]? = some x) (hlen : Go.Pinned.pow10Rows.length = 696) :
    w.cell? ⟨13, 2 * i, none⟩ = some (.int .u64 (x.1 : Nat)) ∧ w.cell? ⟨13, 2 * i + 1, none⟩ = some (.int .u64 (x.2 : Nat)) := by
  obtain ⟨g, t, cs, fuel, p, hg, hty, hvar, hd⟩ := h
  obtain rfl := Option.some.inj ((show Tryz.prog.globalNamed "internal/strconv.pow10Tab" = some 13 by kernel_rfl).symm.trans hg)
  obtain rfl := Option.some.inj ((show (Tryz.prog.globals[13]?).map (·.type) = some 197 by kernel_rfl).symm.trans hty)
  obtain ⟨xs, m, rfl, hxs, hl, hxl, hall⟩ := DataW.trod_array Tryz.underlying197 hd
  have hi : i < 696 := by
    rw [← hlen]
    rcases Nat.lt_or_ge i Go.Pinned.pow10Rows.length with h' | h'
    · exact h'
    · rw [List.getElem?_eq_none h'] at hx; cases hx
  have ha := hall i hi
  obtain ⟨b, hb⟩ : ∃ b, xs[i]? = some b := ⟨xs[i]'(by omega), List.getElem?_eq_getElem (by omega)⟩
  rw [hb, show Tryz.prog.cellsOf 196 = 2 by kernel_rfl] at ha
  have e0 := congrArg Prod.fst hxs
  unfold Go.Pinned.pow10Tab at e0
  simp only [DataW.agg.injEq] at e0
  have hb1 : b.1 = .agg [.lit (.int .u64 (x.1 : Nat)), .lit (.int .u64 (x.2 : Nat))] := by
    have := congrArg (fun l => l[i]?) e0
    simp only [List.getElem?_map, hb, hx, Option.map_some, Option.some.injEq] at this
    exact this.symm
  obtain ⟨ys, n, rfl, hy, hyl, hyl2, hyall⟩ := DataW.trod_struct Tryz.underlying196 ha
  have f0 : DataW.trod (fun _ => ()) Tryz.prog w 0 (fun _ => true) false n 30 ((((cs.toList.drop (i * 2)).take 2).drop 0).take (Tryz.prog.cellsOf 30)) = ys[0]? := hyall 0 _ rfl
  have f1 : DataW.trod (fun _ => ()) Tryz.prog w 0 (fun _ => true) false n 30 ((((cs.toList.drop (i * 2)).take 2).drop 1).take (Tryz.prog.cellsOf 30)) = ys[1]? := hyall 1 _ rfl
  rw [hy] at hb1
  simp only [DataW.agg.injEq] at hb1
  obtain ⟨y0, y1, rfl⟩ : ∃ y0 y1, ys = [y0, y1] := by
    match ys, hb1 with
    | [a, c], _ => exact ⟨a, c, rfl⟩
  simp only [List.map_cons, List.map_nil, List.cons.injEq, and_true] at hb1
  simp only [List.getElem?_cons_zero, List.getElem?_cons_succ] at f0 f1
  rw [show Tryz.prog.cellsOf 30 = 1 by kernel_rfl] at f0 f1
  have c0 := int_of_trod Tryz.underlying30 f0 hb1.1
  have c1 := int_of_trod Tryz.underlying30 f1 hb1.2
  rw [show Tryz.prog.cellsOf 197 = 1392 by kernel_rfl] at hl
  have hsz : cs.size = 1392 := by rw [← Array.length_toList]; exact hl
  have g0 := take_get c0 (j := 0) (by rfl)
  have g1 := take_get c1 (j := 0) (by rfl)
  simp only [Nat.add_zero] at g0 g1
  have h0 := take_get (cs := cs.toList) (i := i * 2) (n := 2) rfl g0
  have h1 := take_get (cs := cs.toList) (i := i * 2) (n := 2) rfl g1
  constructor
  · rw [var_cell (by kernel_rfl) hvar (2 * i) (by omega), ← Array.getElem?_eq_getElem, ← Array.getElem?_toList, show 2 * i = i * 2 + 0 by omega]; exact h0
  · rw [var_cell (by kernel_rfl) hvar (2 * i + 1) (by omega), ← Array.getElem?_eq_getElem, ← Array.getElem?_toList, show 2 * i + 1 = i * 2 + 1 by omega]; exact h1
end Go.Proofs.YtoonneminimbfaaGreatDoor
