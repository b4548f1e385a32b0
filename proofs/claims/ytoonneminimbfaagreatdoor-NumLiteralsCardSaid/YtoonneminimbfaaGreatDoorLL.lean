/- What NumKnown's walk reads besides: all powers of ten, the table, the library's error. strconv.ParseFloat along its roads, and num.Float. -/
import Derived.Test.YtoonneminimbfaaGreatDoorLK
import Derived.LaidLaws
namespace Go.Proofs.YtoonneminimbfaaGreatDoor
section
open Go.RowKit Go.Lib
set_option linter.unusedVariables false
set_option linter.unusedSimpArgs false

def powDs : List (DataW Unit) := match (Rows.laid_internal_strconv_float64pow10 : DataW Unit) with | .slice l _ => l | _ => []
/-- All of the powers of ten that are floats. -/
def PowF (w : World) : Prop := ∃ pb po c, w.cell? ⟨10, 0, none⟩ = some (.slice (some ⟨pb, po, none⟩) 23 c) ∧ ∀ i b, powDs[i]? = some (.lit (.float .f64 b)) → w.cell? ⟨pb, po + i, none⟩ = some (.float .f64 b)
set_option maxRecDepth 1000000 in
theorem powF_of {w : World} (hlen : powDs.length = 23) (h : VarReads Tryz.prog w "internal/strconv.float64pow10" (.slice powDs [])) : PowF w := by
  obtain ⟨g, t, cs, fuel, p, hg, hty, hvar, hd⟩ := h
  obtain rfl := Option.some.inj ((show Tryz.prog.globalNamed "internal/strconv.float64pow10" = some 10 by kernel_rfl).symm.trans hg)
  obtain rfl := Option.some.inj ((show (Tryz.prog.globals[10]?).map (·.type) = some 191 by kernel_rfl).symm.trans hty)
  rcases DataW.trod_slice Tryz.underlying191 hd with ⟨_, hx⟩ | ⟨a, len, cap, el, rs, m, rfl, hcs, hx, _, hlc, _, hel, helem, _, _⟩
  · cases hx
  · have e0 := congrArg Prod.fst hx
    simp only [DataW.slice.injEq] at e0
    obtain ⟨eE, _⟩ := e0
    have hl : len = 23 := by
      have := congrArg List.length eE
      simp at this
      omega
    subst hl
    have h10 : w.cell? ⟨10, 0, none⟩ = some (.slice (some a) 23 cap) := by
      have hsz : 0 < cs.size := by rw [← Array.length_toList, hcs]; simp
      rw [var_cell (by kernel_rfl) hvar 0 hsz]
      have : cs = #[.slice (some a) 23 cap] := by rw [← Array.toList_inj]; exact hcs
      subst this; rfl
    have hi0 := helem 0 (by omega)
    rw [show Tryz.prog.cellsOf 27 = 1 by kernel_rfl] at hi0
    obtain ⟨b0, hb0⟩ : ∃ b, el[0]? = some b := ⟨el[0]'(by omega), List.getElem?_eq_getElem (by omega)⟩
    rw [hb0] at hi0
    obtain ⟨c0, hc0, ht0⟩ := Option.bind_eq_some_iff.1 hi0
    obtain ⟨_, hcl0, hat0⟩ := World.cells?_some hc0
    have hs0 := hat0 0 (by omega)
    obtain ⟨u0, hu0⟩ : ∃ u, c0[0]? = some u := ⟨c0[0]'(by omega), List.getElem?_eq_getElem (by omega)⟩
    rw [hu0] at hs0
    have hspot : a.spot = none := World.cell?_spot (by simpa [Addr.add] using hs0)
    obtain ⟨pb, po, spot⟩ := a
    dsimp only at hspot
    subst hspot
    refine ⟨pb, po, cap, h10, fun i bt hbt => ?_⟩
    have hi23 : i < 23 := by
      rw [← hlen]
      rcases Nat.lt_or_ge i powDs.length with h' | h'
      · exact h'
      · rw [List.getElem?_eq_none h'] at hbt; cases hbt
    have hi := helem i hi23
    rw [show Tryz.prog.cellsOf 27 = 1 by kernel_rfl] at hi
    obtain ⟨b, hb⟩ : ∃ b, el[i]? = some b := ⟨el[i]'(by omega), List.getElem?_eq_getElem (by omega)⟩
    have hb1 : b.1 = .lit (.float .f64 bt) := by
      have := congrArg (fun l => l[i]?) eE
      simp only [List.getElem?_map, hb, hbt] at this
      simpa using this.symm
    rw [hb] at hi
    obtain ⟨c1, hc1, ht1⟩ := Option.bind_eq_some_iff.1 hi
    obtain ⟨_, hcl, hat⟩ := World.cells?_some hc1
    cases m with
    | zero => simp [DataW.trod] at ht1
    | succ m =>
      unfold DataW.trod at ht1
      simp only [Tryz.underlying27] at ht1
      match c1, hcl, ht1 with
      | [v], _, ht1 =>
        cases v with
        | float k bts =>
          have hv : k = .f64 ∧ bts = bt := by
            simp only at ht1
            split at ht1
            · simp only [Option.some.injEq] at ht1
              rw [← ht1] at hb1
              simp only [DataW.lit.injEq, Lit.float.injEq] at hb1
              rename_i hk
              exact ⟨by first | exact hk.1 | exact hk, hb1.2⟩
            · cases ht1
          obtain ⟨rfl, rfl⟩ := hv
          have hcc := hat 0 (by simp)
          by_cases hi0' : i = 0
          · subst hi0'; simpa [Addr.add] using hcc
          · simpa [Addr.add, hi0'] using hcc
        | _ => simp at ht1
/-- The library's error, whatever it is. -/
def ErrR (w : World) : Prop := ∃ ev : Value, w.cell? ⟨2, 0, none⟩ = some ev ∧ (ev = .nilIface ∨ ∃ te pe, ev = .iface te pe)
theorem errR_of {w : World} (h : VarReads Tryz.prog w "strconv.ErrRange" Rows.laid_strconv_ErrRange) : ErrR w := by
  obtain ⟨g, t, cs, fuel, p, hg, hty, hvar, hd⟩ := h
  obtain rfl := Option.some.inj ((show Tryz.prog.globalNamed "strconv.ErrRange" = some 2 by kernel_rfl).symm.trans hg)
  obtain rfl := Option.some.inj ((show (Tryz.prog.globals[2]?).map (·.type) = some 63 by kernel_rfl).symm.trans hty)
  obtain ⟨_, u, v, hcs, _, _⟩ := iface_of_trod Tryz.underlying63 hd
  have hsz : 0 < cs.size := by rw [← Array.length_toList, hcs]; simp
  refine ⟨.iface u v, ?_, .inr ⟨u, v, rfl⟩⟩
  rw [var_cell (by kernel_rfl) hvar 0 hsz]
  have : cs = #[.iface u v] := by rw [← Array.toList_inj]; exact hcs
  subst this
  rfl
structure Glob2 (w : World) : Prop where
  glob : Glob w
  powf : PowF w
  tab : PowTab w
  err : ErrR w
theorem Glob2.below {w w' : World} (h : Glob2 w) (hb : Below w.heap.size w w') : Glob2 w' := by
  refine ⟨h.glob.below hb, ?_, ?_, ?_⟩
  · obtain ⟨pb, po, c, h1, h2⟩ := h.powf
    exact ⟨pb, po, c, Below.at_ hb h1, fun i b hi => Below.at_ hb (h2 i b hi)⟩
  · exact fun i x hx => ⟨Below.at_ hb (h.tab i x hx).1, Below.at_ hb (h.tab i x hx).2⟩
  · obtain ⟨ev, h1, h2⟩ := h.err
    exact ⟨ev, Below.at_ hb h1, h2⟩
set_option maxRecDepth 1000000 in
theorem glob2_of {w : World} (hsh : w.ShapedOpen Tryz.prog) (hL : laidMet Tryz.prog Rows.numRingRow.laid w) : Glob2 w where
  glob := glob_of hsh hL
  powf := powF_of (by decide +kernel) (by
    have := Lib.laidMet.reads (n := "internal/strconv.float64pow10") (d := (Rows.laid_internal_strconv_float64pow10 : DataW Unit)) hL (by simp [Rows.numRingRow])
    exact this)
  tab := fun i x hx => powTab_of (Lib.laidMet.reads hL (by simp [Rows.numRingRow, Rows.laid_internal_strconv_pow10Tab])) i x hx (by decide +kernel)
  err := errR_of (Lib.laidMet.reads hL (by simp [Rows.numRingRow]))
end

section
open Go.RowKit
set_option linter.unusedVariables false
set_option linter.unusedSimpArgs false

/-- A text whose first byte is a digit. -/
structure Dg (s : ByteArray) : Prop where
  pos : 0 < s.size
  most : s.size ≤ 60
  dig : isDig (s[0]'pos) = true
set_option maxRecDepth 1000000 in
set_option maxHeartbeats 1600000 in
theorem special_dig (s : ByteArray) (h : Dg s) (w : World) : Calls Tryz.prog 134 #[.string s] w fun e w' => e = .returned (.tuple #[.float .f64 0, .int .i64 0, .bool false]) ∧ w = w' := by
  obtain ⟨hp, hm, hd⟩ := h
  have hne : ¬ s = ByteArray.empty := by rintro rfl; simp at hp
  obtain ⟨c, hc⟩ : ∃ c, (s[0]'hp) = c := ⟨_, rfl⟩
  rw [hc] at hd
  have h1 : 48 ≤ c.toNat ∧ c.toNat ≤ 57 := by simpa [isDig] using hd
  have k1 : ((c.toNat : Int) == 43) = false := by simp; omega
  have k2 : ((c.toNat : Int) == 45) = false := by simp; omega
  have k3 : ((c.toNat : Int) == 105) = false := by simp; omega
  have k4 : ((c.toNat : Int) == 73) = false := by simp; omega
  have k5 : ((c.toNat : Int) == 110) = false := by simp; omega
  have k6 : ((c.toNat : Int) == 78) = false := by simp; omega
  have hsz : ¬ (s.size : Int) = 0 := by omega
  have hsz2 : ((s.size : Int) == 0) = false := by simpa using hsz
  clear hd h1
  go_enter Tryz.func134, Tryz.ntmps134
  go_wp2_with fail
  exact bodyPost_ret (v := .tuple #[.float .f64 0, .int .i64 0, .bool false]) (by simp [results, Tryz.results134, go_sem]) rfl ⟨rfl, rfl⟩

/-- What is read of a text, as internal/strconv.readFloat tells it. -/
def RDs (s : ByteArray) (d : Nat) (p : Int) : Prop := Dg s ∧ ∀ w, Calls Tryz.prog 135 #[.string s] w fun e w' => e = .returned (.tuple #[.int .u64 d, .int .i64 p, .bool false, .bool false, .bool false, .int .i64 s.size, .bool true]) ∧ w = w'
/-- What internal/strconv.atof64 tells of a text. -/
def AT (s : ByteArray) (f : Nat) (b : Bool) : Prop := ∀ w, Glob2 w → Calls Tryz.prog 121 #[.string s] w fun e w' => e = .returned (.tuple #[.float .f64 f, .int .i64 s.size, rangeErr b]) ∧ Below w.heap.size w w'
set_option maxRecDepth 1000000 in
set_option maxHeartbeats 1600000 in
theorem atof_zero (s : ByteArray) (p : Int) (h : RDs s 0 p) : AT s 0 false := by
  intro w hG
  have h6 := hG.glob.knows.ways
  have HS := Lib.hid (fun w => special_dig s h.1 w)
  have HR := Lib.hid h.2
  have hq : ∀ w : World, (callFunc 144 #[.int .u64 0]).run Tryz.prog w = .ok (.value (.float .f64 0)) w := fromB_run 0
  have hor : bits BinOp.or IntKind.u64 0 0 = 0 := by decide
  clear hG h
  go_enter Tryz.func121, Tryz.ntmps121
  go_wp2_with (first | (go_at_call 134; refine (HS.out _).mono ?_; rintro e w' ⟨rfl, rfl⟩) | (go_at_call 135; refine (HR.out _).mono ?_; rintro e w' ⟨rfl, rfl⟩) | (go_at_call 143; refine (bool2_false _).mono ?_; rintro e w' ⟨rfl, rfl⟩))
  exact bodyPost_ret (v := .tuple #[.float .f64 0, .int .i64 s.size, .nilIface]) (by simp [results, Tryz.results121, go_sem]) rfl ⟨rfl, Below.refl _ _⟩
set_option maxRecDepth 1000000 in
set_option maxHeartbeats 1600000 in
theorem atof_tiny (s : ByteArray) (d : Nat) (p : Int) (h : RDs s d p) (hd : d ≠ 0) (hp : p < -345) : AT s 0 false := by
  intro w hG
  have h6 := hG.glob.knows.ways
  have HS := Lib.hid (fun w => special_dig s h.1 w)
  have HR := Lib.hid h.2
  have hq : ∀ w : World, (callFunc 144 #[.int .u64 0]).run Tryz.prog w = .ok (.value (.float .f64 0)) w := fromB_run 0
  have hor : bits BinOp.or IntKind.u64 0 0 = 0 := by decide
  have hd2 : ((d : Int) == 0) = false := by simpa using hd
  have hp2 : ¬ 310 < p := by omega
  clear hG h hd
  go_enter Tryz.func121, Tryz.ntmps121
  go_wp2_with (first | (go_at_call 134; refine (HS.out _).mono ?_; rintro e w' ⟨rfl, rfl⟩) | (go_at_call 135; refine (HR.out _).mono ?_; rintro e w' ⟨rfl, rfl⟩) | (go_at_call 143; refine (bool2_false _).mono ?_; rintro e w' ⟨rfl, rfl⟩))
  exact bodyPost_ret (v := .tuple #[.float .f64 0, .int .i64 s.size, .nilIface]) (by simp [results, Tryz.results121, go_sem]) rfl ⟨rfl, Below.refl _ _⟩
/-- The exact road, and whether it serves. -/
def EX (d : Nat) (p : Int) (g : Nat) (ok : Bool) : Prop := ∀ w, Glob2 w → Calls Tryz.prog 145 #[.int .u64 d, .int .i64 p, .bool false] w fun e w' => e = .returned (.tuple #[.float .f64 g, .bool ok]) ∧ Below w.heap.size w w'
set_option maxRecDepth 1000000 in
set_option maxHeartbeats 1600000 in
theorem atof_exact (s : ByteArray) (d : Nat) (p : Int) (f : Nat) (h : RDs s d p) (hd : d ≠ 0) (hp : ¬ p < -345) (hp2 : ¬ 310 < p) (hx : EX d p f true) : AT s f false := by
  intro w hG
  have h6 := hG.glob.knows.ways
  have HS := Lib.hid (fun w => special_dig s h.1 w)
  have HR := Lib.hid h.2
  have HX := Lib.hid (hx w hG)
  have hd2 : ((d : Int) == 0) = false := by simpa using hd
  clear hG h hd hx
  go_enter Tryz.func121, Tryz.ntmps121
  go_wp2_with (first | (go_at_call 134; refine (HS.out _).mono ?_; rintro e w' ⟨rfl, rfl⟩) | (go_at_call 135; refine (HR.out _).mono ?_; rintro e w' ⟨rfl, rfl⟩) | (go_at_call 143; refine (bool2_false _).mono ?_; rintro e w' ⟨rfl, rfl⟩) | (go_at_call 145; refine HX.out.mono ?_; rintro e w1 ⟨rfl, hb1⟩))
  exact bodyPost_ret (v := .tuple #[.float .f64 f, .int .i64 s.size, .nilIface]) (by simp [results, Tryz.results121, go_sem]) rfl ⟨rfl, hb1⟩
/-- The scaled road. -/
def PF (d : Nat) (p : Int) (f : Nat) (b : Bool) : Prop := ∀ w, Glob2 w → Calls Tryz.prog 146 #[.int .u64 d, .int .i64 p, .int .u64 0] w fun e w' => e = .returned (.tuple #[.float .f64 f, rangeErr b]) ∧ Below w.heap.size w w'
set_option maxRecDepth 1000000 in
set_option maxHeartbeats 1600000 in
theorem atof_pf (s : ByteArray) (d : Nat) (p : Int) (g f : Nat) (b : Bool) (h : RDs s d p) (hd : d ≠ 0) (hp : ¬ p < -345) (hp2 : ¬ 310 < p) (hx : EX d p g false) (hpf : PF d p f b) : AT s f b := by
  intro w hG
  have h6 := hG.glob.knows.ways
  have HS := Lib.hid (fun w => special_dig s h.1 w)
  have HR := Lib.hid h.2
  have HX := Lib.hid (hx w hG)
  have HP := Lib.hid (fun w' (hb : Below w.heap.size w w') => hpf w' (hG.below hb))
  have hd2 : ((d : Int) == 0) = false := by simpa using hd
  clear hG h hd hx hpf
  go_enter Tryz.func121, Tryz.ntmps121
  go_wp2_with (first | (go_at_call 134; refine (HS.out _).mono ?_; rintro e w' ⟨rfl, rfl⟩) | (go_at_call 135; refine (HR.out _).mono ?_; rintro e w' ⟨rfl, rfl⟩) | (go_at_call 143; refine (bool2_false _).mono ?_; rintro e w' ⟨rfl, rfl⟩) | (go_at_call 145; refine HX.out.mono ?_; rintro e w1 ⟨rfl, hb1⟩) | (go_at_call 146; refine (HP.out _ hb1).mono ?_; rintro e w2 ⟨rfl, hb2⟩))
  exact bodyPost_ret (v := .tuple #[.float .f64 f, .int .i64 s.size, rangeErr b]) (by simp [results, Tryz.results121, go_sem]) rfl ⟨rfl, below_then hb1 hb2⟩

/-- strconv.ParseFloat. -/
theorem parse_ok (s : ByteArray) (f : Nat) (h : AT s f false) (w : World) (hG : Glob2 w) : Calls Tryz.prog 55 #[.string s, .int .i64 64] w fun e w' => e = .returned (.tuple #[.float .f64 f, .nilIface]) ∧ Below w.heap.size w w' := by
  have HA := Lib.hid (show Calls Tryz.prog 121 #[.string s] w fun e w' => e = .returned (.tuple #[.float .f64 f, .int .i64 s.size, .nilIface]) ∧ Below w.heap.size w w' from h w hG)
  have HB : RowKit.Hid (Calls Tryz.prog 104 #[.string s, .int .i64 64] w fun e w' => e = .returned (.tuple #[.float .f64 f, .int .i64 s.size, .nilIface]) ∧ Below w.heap.size w w') := Lib.hid (by
    clear h hG
    go_enter Tryz.func104, Tryz.ntmps104
    go_wp2_with (go_at_call 121; refine HA.out.mono ?_; rintro e w' ⟨rfl, hb⟩)
    exact bodyPost_ret (v := .tuple #[.float .f64 f, .int .i64 s.size, .nilIface]) (by simp [results, Tryz.results104, go_sem]) rfl ⟨rfl, hb⟩)
  clear HA
  have HC : RowKit.Hid (Calls Tryz.prog 86 #[.string s, .int .i64 64] w fun e w' => e = .returned (.tuple #[.float .f64 f, .nilIface]) ∧ Below w.heap.size w w') := Lib.hid (by
    clear h hG
    go_enter Tryz.func86, Tryz.ntmps86
    go_wp2_with (go_at_call 104; refine HB.out.mono ?_; rintro e w' ⟨rfl, hb⟩)
    go_ret2
    exact ⟨rfl, hb⟩)
  clear h hG HB
  go_enter Tryz.func55, Tryz.ntmps55
  go_wp2_with (go_at_call 86; refine HC.out.mono ?_; rintro e w' ⟨rfl, hb⟩)
  go_ret2
  exact ⟨rfl, hb⟩
theorem parse_err (s : ByteArray) (f : Nat) (h : AT s f true) (hs : s.size ≤ 60) (w : World) (hG : Glob2 w) : Calls Tryz.prog 55 #[.string s, .int .i64 64] w fun e w' => (∃ N : Nat, e = .returned (.tuple #[.float .f64 f, .iface 114 (.pointer (some ⟨N, 0, none⟩))])) ∧ Below w.heap.size w w' := by
  have HA := Lib.hid (show Calls Tryz.prog 121 #[.string s] w fun e w' => e = .returned (.tuple #[.float .f64 f, .int .i64 s.size, .iface 111 (.int .i64 1)]) ∧ Below w.heap.size w w' from h w hG)
  have HB : RowKit.Hid (Calls Tryz.prog 104 #[.string s, .int .i64 64] w fun e w' => e = .returned (.tuple #[.float .f64 f, .int .i64 s.size, .iface 111 (.int .i64 1)]) ∧ Below w.heap.size w w') := Lib.hid (by
    clear h hG
    go_enter Tryz.func104, Tryz.ntmps104
    go_wp2_with (go_at_call 121; refine HA.out.mono ?_; rintro e w' ⟨rfl, hb⟩)
    exact bodyPost_ret (v := .tuple #[.float .f64 f, .int .i64 s.size, .iface 111 (.int .i64 1)]) (by simp [results, Tryz.results104, go_sem]) rfl ⟨rfl, hb⟩)
  clear HA
  have HC : RowKit.Hid (Calls Tryz.prog 86 #[.string s, .int .i64 64] w fun e w' => e = .returned (.tuple #[.float .f64 f, .iface 111 (.int .i64 1)]) ∧ Below w.heap.size w w') := Lib.hid (by
    clear h hG
    go_enter Tryz.func86, Tryz.ntmps86
    go_wp2_with (go_at_call 104; refine HB.out.mono ?_; rintro e w' ⟨rfl, hb⟩)
    go_ret2
    exact ⟨rfl, hb⟩)
  have HT := Lib.hid (show ∀ w', Below w.heap.size w w' → Calls Tryz.prog 82 #[.string ⟨#[80, 97, 114, 115, 101, 70, 108, 111, 97, 116]⟩, .string s, .int .i64 0, .int .i64 64, .iface 111 (.int .i64 1)] w' fun e w2 => (∃ N : Nat, e = .returned (.iface 114 (.pointer (some ⟨N, 0, none⟩)))) ∧ Below w'.heap.size w' w2 from fun w' hb => by
    obtain ⟨ev, h1, h2⟩ := (hG.below hb).err
    exact (Tryz.strconv_toError_range ⟨#[80, 97, 114, 115, 101, 70, 108, 111, 97, 116]⟩ s 0 64 ev w' (by omega) h1 h2).mono fun e w2 ⟨N, h3, _, _, h4⟩ => ⟨⟨N, h3⟩, h4⟩)
  clear h hG HB
  go_enter Tryz.func55, Tryz.ntmps55
  go_wp2_with (first | (go_at_call 86; refine HC.out.mono ?_; rintro e w' ⟨rfl, hb⟩) | (go_at_call 82; refine (HT.out _ hb).mono ?_; rintro e w2 ⟨⟨N, rfl⟩, hb2⟩))
  go_ret2
  exact ⟨⟨N, rfl⟩, below_then hb hb2⟩

/-- num.Float. -/
theorem numFloat_ok (s : ByteArray) (f : Nat) (h : AT s f false) (hs : s.size ≤ 60) (w : World) (hG : Glob2 w) (hf : Calls Tryz.prog 54 #[.string s] w fun e w' => e = .returned (.bool true) ∧ Below w.heap.size w w') :
    Calls Tryz.prog 15 #[.string s] w fun e w' => e = .returned (.tuple #[.float .f64 f, .int .i64 0]) ∧ Below w.heap.size w w' := by
  have HF := Lib.hid hf
  have HP := Lib.hid (fun w' (hb : Below w.heap.size w w') => parse_ok s f h w' (hG.below hb))
  have hs2 : ¬ (60 : Int) < (s.size : Int) := by omega
  clear h hG hf
  go_enter Tryz.func15, Tryz.ntmps15
  go_wp2_with (first | (go_at_call 54; refine HF.out.mono ?_; rintro e w1 ⟨rfl, hb1⟩) | (go_at_call 55; refine (HP.out _ hb1).mono ?_; rintro e w2 ⟨rfl, hb2⟩))
  go_ret2
  exact ⟨rfl, below_then hb1 hb2⟩
theorem numFloat_err (s : ByteArray) (f : Nat) (h : AT s f true) (hs : s.size ≤ 60) (w : World) (hG : Glob2 w) (hf : Calls Tryz.prog 54 #[.string s] w fun e w' => e = .returned (.bool true) ∧ Below w.heap.size w w') :
    Calls Tryz.prog 15 #[.string s] w fun e w' => e = .returned (.tuple #[.float .f64 0, .int .i64 3]) ∧ Below w.heap.size w w' := by
  have HF := Lib.hid hf
  have HP := Lib.hid (fun w' (hb : Below w.heap.size w w') => parse_err s f h hs w' (hG.below hb))
  have hs2 : ¬ (60 : Int) < (s.size : Int) := by omega
  clear h hG hf
  go_enter Tryz.func15, Tryz.ntmps15
  go_wp2_with (first | (go_at_call 54; refine HF.out.mono ?_; rintro e w1 ⟨rfl, hb1⟩) | (go_at_call 55; refine (HP.out _ hb1).mono ?_; rintro e w2 ⟨⟨N, rfl⟩, hb2⟩))
  go_ret2
  exact ⟨rfl, below_then hb1 hb2⟩
theorem numFloat_not (s : ByteArray) (hs : s.size ≤ 60) (w : World) (hf : Calls Tryz.prog 54 #[.string s] w fun e w' => e = .returned (.bool false) ∧ Below w.heap.size w w') :
    Calls Tryz.prog 15 #[.string s] w fun e w' => e = .returned (.tuple #[.float .f64 0, .int .i64 4]) ∧ Below w.heap.size w w' := by
  have HF := Lib.hid hf
  have hs2 : ¬ (60 : Int) < (s.size : Int) := by omega
  clear hf
  go_enter Tryz.func15, Tryz.ntmps15
  go_wp2_with (go_at_call 54; refine HF.out.mono ?_; rintro e w1 ⟨rfl, hb1⟩)
  go_ret2
  exact ⟨rfl, hb1⟩
end
end Go.Proofs.YtoonneminimbfaaGreatDoor
