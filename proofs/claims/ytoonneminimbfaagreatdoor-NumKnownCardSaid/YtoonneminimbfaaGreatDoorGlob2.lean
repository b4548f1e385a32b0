/- What NumKnown's walk reads besides: all powers of ten, the table, the library's error. -/
import Derived.Test.YtoonneminimbfaaGreatDoorPf
import Derived.LaidLaws
namespace Go.Proofs.YtoonneminimbfaaGreatDoor
open Go.RowKit Go.Lib
set_option linter.unusedVariables false
set_option linter.unusedSimpArgs false

def powDs : List (DataW Unit) := match (Rows.laid_internal_strconv_float64pow10 : DataW Unit) with | .slice l _ => l | _ => []
/-- All of the powers of ten that are floats. -/
def PowF (w : World) : Prop := ∃ pb po c, w.cell? ⟨10, 0, none⟩ = some (.slice (some ⟨pb, po, none⟩) 23 c) ∧ ∀ i b, powDs[i]? = some (.lit (.float .f64 b)) → w.cell? ⟨pb, po + i, none⟩ = some (.float .f64 b)
set_option maxRecDepth 1000000 in
theorem powF_of {w : World} (hlen : powDs.length = 23) (h : VarReads Tryz.prog w "internal/strconv.float64pow10" (.slice powDs [])) : PowF w := by
  obtain ⟨g, t, cs, fuel, p, hg, hty, hvar, hd⟩ := h
  obtain rfl := Option.some.inj ((show Tryz.prog.globalNamed "internal/strconv.float64pow10" = some 10 by kernel_rfl).symm.trans hg)
  obtain rfl := Option.some.inj ((show (Tryz.prog.globals[10]?).map (·.type) = some 191 by kernel_rfl).symm.trans hty)
  rcases DataW.trod_slice Tryz.underlying191 hd with ⟨_, hx⟩ | ⟨a, len, cap, el, rs, m, rfl, hcs, hx, _, hlc, _, hel, helem, _, _⟩
  · cases hx
  · have e0 := congrArg Prod.fst hx
    simp only [DataW.slice.injEq] at e0
    obtain ⟨eE, _⟩ := e0
    have hl : len = 23 := by
      have := congrArg List.length eE
      simp at this
      omega
    subst hl
    have h10 : w.cell? ⟨10, 0, none⟩ = some (.slice (some a) 23 cap) := by
      have hsz : 0 < cs.size := by rw [← Array.length_toList, hcs]; simp
      rw [var_cell (by kernel_rfl) hvar 0 hsz]
      have : cs = #[.slice (some a) 23 cap] := by rw [← Array.toList_inj]; exact hcs
      subst this; rfl
    have hi0 := helem 0 (by omega)
    rw [show Tryz.prog.cellsOf 27 = 1 by kernel_rfl] at hi0
    obtain ⟨b0, hb0⟩ : ∃ b, el[0]? = some b := ⟨el[0]'(by omega), List.getElem?_eq_getElem (by omega)⟩
    rw [hb0] at hi0
    obtain ⟨c0, hc0, ht0⟩ := Option.bind_eq_some_iff.1 hi0
    obtain ⟨_, hcl0, hat0⟩ := World.cells?_some hc0
    have hs0 := hat0 0 (by omega)
    obtain ⟨u0, hu0⟩ : ∃ u, c0[0]? = some u := ⟨c0[0]'(by omega), List.getElem?_eq_getElem (by omega)⟩
    rw [hu0] at hs0
    have hspot : a.spot = none := World.cell?_spot (by simpa [Addr.add] using hs0)
    obtain ⟨pb, po, spot⟩ := a
    dsimp only at hspot
    subst hspot
    refine ⟨pb, po, cap, h10, fun i bt hbt => ?_⟩
    have hi23 : i < 23 := by
      rw [← hlen]
      rcases Nat.lt_or_ge i powDs.length with h' | h'
      · exact h'
      · rw [List.getElem?_eq_none h'] at hbt; cases hbt
    have hi := helem i hi23
    rw [show Tryz.prog.cellsOf 27 = 1 by kernel_rfl] at hi
    obtain ⟨b, hb⟩ : ∃ b, el[i]? = some b := ⟨el[i]'(by omega), List.getElem?_eq_getElem (by omega)⟩
    have hb1 : b.1 = .lit (.float .f64 bt) := by
      have := congrArg (fun l => l[i]?) eE
      simp only [List.getElem?_map, hb, hbt] at this
      simpa using this.symm
    rw [hb] at hi
    obtain ⟨c1, hc1, ht1⟩ := Option.bind_eq_some_iff.1 hi
    obtain ⟨_, hcl, hat⟩ := World.cells?_some hc1
    cases m with
    | zero => simp [DataW.trod] at ht1
    | succ m =>
      unfold DataW.trod at ht1
      simp only [Tryz.underlying27] at ht1
      match c1, hcl, ht1 with
      | [v], _, ht1 =>
        cases v with
        | float k bts =>
          have hv : k = .f64 ∧ bts = bt := by
            simp only at ht1
            split at ht1
            · simp only [Option.some.injEq] at ht1
              rw [← ht1] at hb1
              simp only [DataW.lit.injEq, Lit.float.injEq] at hb1
              rename_i hk
              exact ⟨by first | exact hk.1 | exact hk, hb1.2⟩
            · cases ht1
          obtain ⟨rfl, rfl⟩ := hv
          have hcc := hat 0 (by simp)
          by_cases hi0' : i = 0
          · subst hi0'; simpa [Addr.add] using hcc
          · simpa [Addr.add, hi0'] using hcc
        | _ => simp at ht1
/-- The library's error, whatever it is. -/
def ErrR (w : World) : Prop := ∃ ev : Value, w.cell? ⟨2, 0, none⟩ = some ev ∧ (ev = .nilIface ∨ ∃ te pe, ev = .iface te pe)
theorem errR_of {w : World} (h : VarReads Tryz.prog w "strconv.ErrRange" Rows.laid_strconv_ErrRange) : ErrR w := by
  obtain ⟨g, t, cs, fuel, p, hg, hty, hvar, hd⟩ := h
  obtain rfl := Option.some.inj ((show Tryz.prog.globalNamed "strconv.ErrRange" = some 2 by kernel_rfl).symm.trans hg)
  obtain rfl := Option.some.inj ((show (Tryz.prog.globals[2]?).map (·.type) = some 63 by kernel_rfl).symm.trans hty)
  obtain ⟨_, u, v, hcs, _, _⟩ := iface_of_trod Tryz.underlying63 hd
  have hsz : 0 < cs.size := by rw [← Array.length_toList, hcs]; simp
  refine ⟨.iface u v, ?_, .inr ⟨u, v, rfl⟩⟩
  rw [var_cell (by kernel_rfl) hvar 0 hsz]
  have : cs = #[.iface u v] := by rw [← Array.toList_inj]; exact hcs
  subst this
  rfl
structure Glob2 (w : World) : Prop where
  glob : Glob w
  powf : PowF w
  tab : PowTab w
  err : ErrR w
theorem Glob2.below {w w' : World} (h : Glob2 w) (hb : Below w.heap.size w w') : Glob2 w' := by
  refine ⟨h.glob.below hb, ?_, ?_, ?_⟩
  · obtain ⟨pb, po, c, h1, h2⟩ := h.powf
    exact ⟨pb, po, c, Below.at_ hb h1, fun i b hi => Below.at_ hb (h2 i b hi)⟩
  · exact fun i x hx => ⟨Below.at_ hb (h.tab i x hx).1, Below.at_ hb (h.tab i x hx).2⟩
  · obtain ⟨ev, h1, h2⟩ := h.err
    exact ⟨ev, Below.at_ hb h1, h2⟩
set_option maxRecDepth 1000000 in
theorem glob2_of {w : World} (hsh : w.ShapedOpen Tryz.prog) (hL : laidMet Tryz.prog Rows.numRingRow.laid w) : Glob2 w where
  glob := glob_of hsh hL
  powf := powF_of (by decide +kernel) (by
    have := Lib.laidMet.reads (n := "internal/strconv.float64pow10") (d := (Rows.laid_internal_strconv_float64pow10 : DataW Unit)) hL (by simp [Rows.numRingRow])
    exact this)
  tab := fun i x hx => powTab_of (Lib.laidMet.reads hL (by simp [Rows.numRingRow, Rows.laid_internal_strconv_pow10Tab])) i x hx (by decide +kernel)
  err := errR_of (Lib.laidMet.reads hL (by simp [Rows.numRingRow]))
end Go.Proofs.YtoonneminimbfaaGreatDoor
