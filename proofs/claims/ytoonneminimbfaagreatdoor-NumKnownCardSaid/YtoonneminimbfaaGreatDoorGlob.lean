/- From what the rows list of the library's variables to what the walks read. -/
import Derived.Test.YtoonneminimbfaaGreatDoorAwake
import Derived.Lib.LaidU8
import Derived.LaidLaws
import Derived.Lay
namespace Go.Proofs.YtoonneminimbfaaGreatDoor
open Go.RowKit Go.Lib
set_option linter.unusedVariables false
set_option linter.unusedSimpArgs false

theorem var_cell {w : World} {n : String} {g : Nat} {cs : Array Value} (hg : Tryz.prog.globalNamed n = some g) (h : w.var? Tryz.prog n = some cs) (i : Nat) (hi : i < cs.size) : w.cell? ⟨g, i, none⟩ = some cs[i] := by
  have := World.var?_cell hg h i
  rw [this, Array.getElem?_eq_getElem hi]

theorem width_of {w : World} (h : VarReads Tryz.prog w "internal/strconv.float64info" (.agg [.lit (.int .u64 52), .lit (.int .u64 11), .lit (.int .i64 (-1023))])) : w.cell? ⟨7, 0, none⟩ = some (.int .u64 52) := by
  obtain ⟨g, t, cs, fuel, p, hg, hty, hvar, hd⟩ := h
  obtain rfl := Option.some.inj ((show Tryz.prog.globalNamed "internal/strconv.float64info" = some 7 by kernel_rfl).symm.trans hg)
  obtain rfl := Option.some.inj ((show (Tryz.prog.globals[7]?).map (·.type) = some 160 by kernel_rfl).symm.trans hty)
  obtain ⟨xs, n, rfl, hx, hl, hxl, hall⟩ := DataW.trod_struct Tryz.underlying160 hd
  have h0 : DataW.trod (fun _ => ()) Tryz.prog w 0 (fun _ => true) false n 83 ((cs.toList.drop 0).take (Tryz.prog.cellsOf 83)) = xs[0]? := hall 0 _ rfl
  rw [show Tryz.prog.cellsOf 160 = 3 by kernel_rfl] at hl
  rw [show Tryz.prog.cellsOf 83 = 1 by kernel_rfl] at h0
  have e0 : xs.map (·.1) = [.lit (.int .u64 52), .lit (.int .u64 11), .lit (.int .i64 (-1023))] := by
    have := congrArg Prod.fst hx
    simpa using this.symm
  obtain ⟨b, hb⟩ : ∃ b, xs[0]? = some b := by
    cases xs with
    | nil => simp at e0
    | cons x xs => exact ⟨x, rfl⟩
  rw [hb] at h0
  obtain ⟨z, hcz, rfl, _⟩ := DataW.trod_int Tryz.underlying83 h0
  have hz : z = 52 := by
    have := congrArg (fun l => l[0]?) e0
    simp [List.getElem?_map, hb] at this
    exact this
  subst hz
  have hsz : 0 < cs.size := by rw [← Array.length_toList]; omega
  rw [var_cell (by kernel_rfl) hvar 0 hsz]
  have hh : cs.toList[0]? = some (Value.int .u64 52) := by
    have := congrArg (fun l => l[0]?) hcz
    simpa using this
  rw [← Array.getElem?_eq_getElem hsz]
  simpa using hh

theorem ways_of {w : World} (h : VarReads Tryz.prog w "internal/strconv.optimize" (.lit (.bool true))) : w.cell? ⟨6, 0, none⟩ = some (.bool true) := by
  obtain ⟨g, t, cs, fuel, p, hg, hty, hvar, hd⟩ := h
  obtain rfl := Option.some.inj ((show Tryz.prog.globalNamed "internal/strconv.optimize" = some 6 by kernel_rfl).symm.trans hg)
  obtain rfl := Option.some.inj ((show (Tryz.prog.globals[6]?).map (·.type) = some 4 by kernel_rfl).symm.trans hty)
  obtain ⟨b, hcs, hx⟩ := DataW.trod_bool Tryz.underlying4 hd
  injection hx with hx _
  injection hx with hx
  injection hx with hx
  subst hx
  have hsz : 0 < cs.size := by rw [← Array.length_toList, hcs]; simp
  rw [var_cell (by kernel_rfl) hvar 0 hsz]
  have : cs = #[.bool true] := by rw [← Array.toList_inj]; exact hcs
  subst this
  rfl

theorem tab_of {w : World} {n : String} {g t e m : Nat} {k : IntKind} {zs : List Int} (hg : Tryz.prog.globalNamed n = some g) (hty : (Tryz.prog.globals[g]?).map (·.type) = some t) (ht : Tryz.prog.underlying t = some (.array m e)) (he : Tryz.prog.underlying e = some (.int k))
    (hce : Tryz.prog.cellsOf e = 1) (hct : Tryz.prog.cellsOf t = m) (h : VarReads Tryz.prog w n (tabData k zs)) : TabIs Tryz.prog w n k zs := by
  obtain ⟨g', t', cs, fuel, p, hg', hty', hvar, hd⟩ := h
  obtain rfl := Option.some.inj (hg.symm.trans hg')
  obtain rfl := Option.some.inj (hty.symm.trans hty')
  have := cells_of_tab ht he hce hct hd
  unfold TabIs
  rw [hvar, ← this]

set_option maxRecDepth 1000000 in
theorem pows_of {w : World} {ds : List (DataW Unit)} (hlen : ds.length = 23) (h1 : ds[1]? = some (.lit (.float .f64 4621819117588971520))) (h : VarReads Tryz.prog w "internal/strconv.float64pow10" (.slice ds [])) :
    ∃ pb po c, w.cell? ⟨10, 0, none⟩ = some (.slice (some ⟨pb, po, none⟩) 23 c) ∧ w.cell? ⟨pb, po + 1, none⟩ = some (.float .f64 4621819117588971520) := by
  obtain ⟨g, t, cs, fuel, p, hg, hty, hvar, hd⟩ := h
  obtain rfl := Option.some.inj ((show Tryz.prog.globalNamed "internal/strconv.float64pow10" = some 10 by kernel_rfl).symm.trans hg)
  obtain rfl := Option.some.inj ((show (Tryz.prog.globals[10]?).map (·.type) = some 191 by kernel_rfl).symm.trans hty)
  rcases DataW.trod_slice Tryz.underlying191 hd with ⟨_, hx⟩ | ⟨a, len, cap, el, rs, m, rfl, hcs, hx, _, hlc, _, hel, helem, _, _⟩
  · cases hx
  · have e0 := congrArg Prod.fst hx
    simp only [DataW.slice.injEq] at e0
    obtain ⟨eE, _⟩ := e0
    have hl : len = 23 := by
      have := congrArg List.length eE
      simp at this
      omega
    subst hl
    have hi := helem 1 (by omega)
    rw [show Tryz.prog.cellsOf 27 = 1 by kernel_rfl] at hi
    obtain ⟨b, hb⟩ : ∃ b, el[1]? = some b := ⟨el[1]'(by omega), List.getElem?_eq_getElem (by omega)⟩
    have hb1 : b.1 = .lit (.float .f64 4621819117588971520) := by
      have := congrArg (fun l => l[1]?) eE
      simp only [List.getElem?_map, hb, h1] at this
      simpa using this.symm
    rw [hb] at hi
    obtain ⟨c1, hc1, ht1⟩ := Option.bind_eq_some_iff.1 hi
    obtain ⟨_, hcl, hat⟩ := World.cells?_some hc1
    cases m with
    | zero => simp [DataW.trod] at ht1
    | succ m =>
      unfold DataW.trod at ht1
      simp only [Tryz.underlying27] at ht1
      match c1, hcl, ht1 with
      | [v], _, ht1 =>
        cases v with
        | float k bts =>
          have hv : k = .f64 ∧ bts = 4621819117588971520 := by
            simp only at ht1
            split at ht1
            · simp only [Option.some.injEq] at ht1
              rw [← ht1] at hb1
              simp only [DataW.lit.injEq, Lit.float.injEq] at hb1
              rename_i hk
              exact ⟨by first | exact hk.1 | exact hk, hb1.2⟩
            · cases ht1
          obtain ⟨rfl, rfl⟩ := hv
          have h10 : w.cell? ⟨10, 0, none⟩ = some (.slice (some a) 23 cap) := by
            have hsz : 0 < cs.size := by rw [← Array.length_toList, hcs]; simp
            rw [var_cell (by kernel_rfl) hvar 0 hsz]
            have : cs = #[.slice (some a) 23 cap] := by rw [← Array.toList_inj]; exact hcs
            subst this; rfl
          have hcc := hat 0 (by simp)
          have hi0 := helem 0 (by omega)
          rw [show Tryz.prog.cellsOf 27 = 1 by kernel_rfl] at hi0
          obtain ⟨b0, hb0⟩ : ∃ b, el[0]? = some b := ⟨el[0]'(by omega), List.getElem?_eq_getElem (by omega)⟩
          rw [hb0] at hi0
          obtain ⟨c0, hc0, ht0⟩ := Option.bind_eq_some_iff.1 hi0
          obtain ⟨_, hcl0, hat0⟩ := World.cells?_some hc0
          have hs0 := hat0 0 (by omega)
          obtain ⟨u0, hu0⟩ : ∃ u, c0[0]? = some u := ⟨c0[0]'(by omega), List.getElem?_eq_getElem (by omega)⟩
          rw [hu0] at hs0
          have hspot : a.spot = none := World.cell?_spot (by simpa [Addr.add] using hs0)
          obtain ⟨pb, po, spot⟩ := a
          dsimp only at hspot
          subst hspot
          exact ⟨pb, po, cap, h10, by simpa [Addr.add] using hcc⟩
        | _ => simp at ht1

theorem tens_eq : (Rows.laid_internal_strconv_uint64pow10 : DataW Unit) = tabData .u64 Lib.pow10Tab := by kernel_rfl
def deBruijn : List Int := [0, 1, 56, 2, 57, 49, 28, 3, 61, 58, 42, 50, 38, 29, 17, 4, 62, 47, 59, 36, 45, 43, 51, 22, 53, 39, 33, 30, 24, 18, 12, 5, 63, 55, 48, 27, 60, 41, 37, 16, 46, 35, 44, 21, 52, 32, 23, 11, 54, 26, 40, 15, 34, 20, 31, 10, 25, 14, 19, 9, 13, 8, 7, 6]

set_option maxRecDepth 1000000 in
/-- All that the walks read of them, out of a row's list. -/
theorem glob_of {w : World} (hsh : w.ShapedOpen Tryz.prog) (hL : laidMet Tryz.prog Rows.numRingRow.laid w) : Glob w := by
  have h7 := width_of (Lib.laidMet.reads hL (by simp [Rows.numRingRow, Rows.laid_internal_strconv_float64info]))
  have h6 := ways_of (Lib.laidMet.reads hL (by simp [Rows.numRingRow, Rows.laid_internal_strconv_optimize]))
  have h10 := pows_of (ds := (match (Rows.laid_internal_strconv_float64pow10 : DataW Unit) with | .slice l _ => l | _ => [])) (by rfl) (by rfl) (Lib.laidMet.reads hL (by simp [Rows.numRingRow, Rows.laid_internal_strconv_float64pow10]))
  have h12 := tab_of (n := "math/bits.deBruijn64tab") (g := 12) (t := 194) (e := 5) (m := 64) (k := .u8) (zs := deBruijn) (by kernel_rfl) (by kernel_rfl) Tryz.underlying194 Tryz.underlying5 (by kernel_rfl) (by kernel_rfl) (Lib.laidMet.reads hL (by simp [Rows.numRingRow, Rows.laid_math_bits_deBruijn64tab, deBruijn, tabData]))
  have h3 := tab_of (n := "internal/strconv.uint64pow10") (g := 3) (t := 142) (e := 30) (m := 20) (k := .u64) (zs := Lib.pow10Tab) (by kernel_rfl) (by kernel_rfl) Tryz.underlying142 Tryz.underlying30 (by kernel_rfl) (by kernel_rfl) (Lib.laidMet.reads hL (by rw [← tens_eq]; simp [Rows.numRingRow]))
  have hc := h12.cell (g := 12) (by kernel_rfl) 15 (by decide)
  exact ⟨⟨Tryz.laysM145.s1_3 w hsh, h7, h6, h10⟩, hc, h3⟩
end Go.Proofs.YtoonneminimbfaaGreatDoor
