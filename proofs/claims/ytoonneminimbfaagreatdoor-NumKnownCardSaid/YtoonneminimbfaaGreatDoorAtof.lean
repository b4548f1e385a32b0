/- strconv.ParseFloat along its roads, and num.Float. -/
import Derived.Test.YtoonneminimbfaaGreatDoorGlob2
namespace Go.Proofs.YtoonneminimbfaaGreatDoor
open Go.RowKit
set_option linter.unusedVariables false
set_option linter.unusedSimpArgs false

/-- A text whose first byte is a digit. -/
structure Dg (s : ByteArray) : Prop where
  pos : 0 < s.size
  most : s.size ≤ 60
  dig : isDig (s[0]'pos) = true
set_option maxRecDepth 1000000 in
set_option maxHeartbeats 1600000 in
theorem special_dig (s : ByteArray) (h : Dg s) (w : World) : Calls Tryz.prog 134 #[.string s] w fun e w' => e = .returned (.tuple #[.float .f64 0, .int .i64 0, .bool false]) ∧ w = w' := by
  obtain ⟨hp, hm, hd⟩ := h
  have hne : ¬ s = ByteArray.empty := by rintro rfl; simp at hp
  obtain ⟨c, hc⟩ : ∃ c, (s[0]'hp) = c := ⟨_, rfl⟩
  rw [hc] at hd
  have h1 : 48 ≤ c.toNat ∧ c.toNat ≤ 57 := by simpa [isDig] using hd
  have k1 : ((c.toNat : Int) == 43) = false := by simp; omega
  have k2 : ((c.toNat : Int) == 45) = false := by simp; omega
  have k3 : ((c.toNat : Int) == 105) = false := by simp; omega
  have k4 : ((c.toNat : Int) == 73) = false := by simp; omega
  have k5 : ((c.toNat : Int) == 110) = false := by simp; omega
  have k6 : ((c.toNat : Int) == 78) = false := by simp; omega
  have hsz : ¬ (s.size : Int) = 0 := by omega
  have hsz2 : ((s.size : Int) == 0) = false := by simpa using hsz
  clear hd h1
  go_enter Tryz.func134, Tryz.ntmps134
  go_wp2_with fail
  exact bodyPost_ret (v := .tuple #[.float .f64 0, .int .i64 0, .bool false]) (by simp [results, Tryz.results134, go_sem]) rfl ⟨rfl, rfl⟩

/-- What is read of a text, as internal/strconv.readFloat tells it. -/
def RDs (s : ByteArray) (d : Nat) (p : Int) : Prop := Dg s ∧ ∀ w, Calls Tryz.prog 135 #[.string s] w fun e w' => e = .returned (.tuple #[.int .u64 d, .int .i64 p, .bool false, .bool false, .bool false, .int .i64 s.size, .bool true]) ∧ w = w'
/-- What internal/strconv.atof64 tells of a text. -/
def AT (s : ByteArray) (f : Nat) (b : Bool) : Prop := ∀ w, Glob2 w → Calls Tryz.prog 121 #[.string s] w fun e w' => e = .returned (.tuple #[.float .f64 f, .int .i64 s.size, rangeErr b]) ∧ Below w.heap.size w w'
set_option maxRecDepth 1000000 in
set_option maxHeartbeats 1600000 in
theorem atof_zero (s : ByteArray) (p : Int) (h : RDs s 0 p) : AT s 0 false := by
  intro w hG
  have h6 := hG.glob.knows.ways
  have HS := Lib.hid (fun w => special_dig s h.1 w)
  have HR := Lib.hid h.2
  have hq : ∀ w : World, (callFunc 144 #[.int .u64 0]).run Tryz.prog w = .ok (.value (.float .f64 0)) w := fromB_run 0
  have hor : bits BinOp.or IntKind.u64 0 0 = 0 := by decide
  clear hG h
  go_enter Tryz.func121, Tryz.ntmps121
  go_wp2_with (first | (go_at_call 134; refine (HS.out _).mono ?_; rintro e w' ⟨rfl, rfl⟩) | (go_at_call 135; refine (HR.out _).mono ?_; rintro e w' ⟨rfl, rfl⟩) | (go_at_call 143; refine (bool2_false _).mono ?_; rintro e w' ⟨rfl, rfl⟩))
  exact bodyPost_ret (v := .tuple #[.float .f64 0, .int .i64 s.size, .nilIface]) (by simp [results, Tryz.results121, go_sem]) rfl ⟨rfl, Below.refl _ _⟩
set_option maxRecDepth 1000000 in
set_option maxHeartbeats 1600000 in
theorem atof_tiny (s : ByteArray) (d : Nat) (p : Int) (h : RDs s d p) (hd : d ≠ 0) (hp : p < -345) : AT s 0 false := by
  intro w hG
  have h6 := hG.glob.knows.ways
  have HS := Lib.hid (fun w => special_dig s h.1 w)
  have HR := Lib.hid h.2
  have hq : ∀ w : World, (callFunc 144 #[.int .u64 0]).run Tryz.prog w = .ok (.value (.float .f64 0)) w := fromB_run 0
  have hor : bits BinOp.or IntKind.u64 0 0 = 0 := by decide
  have hd2 : ((d : Int) == 0) = false := by simpa using hd
  have hp2 : ¬ 310 < p := by omega
  clear hG h hd
  go_enter Tryz.func121, Tryz.ntmps121
  go_wp2_with (first | (go_at_call 134; refine (HS.out _).mono ?_; rintro e w' ⟨rfl, rfl⟩) | (go_at_call 135; refine (HR.out _).mono ?_; rintro e w' ⟨rfl, rfl⟩) | (go_at_call 143; refine (bool2_false _).mono ?_; rintro e w' ⟨rfl, rfl⟩))
  exact bodyPost_ret (v := .tuple #[.float .f64 0, .int .i64 s.size, .nilIface]) (by simp [results, Tryz.results121, go_sem]) rfl ⟨rfl, Below.refl _ _⟩
/-- The exact road, and whether it serves. -/
def EX (d : Nat) (p : Int) (g : Nat) (ok : Bool) : Prop := ∀ w, Glob2 w → Calls Tryz.prog 145 #[.int .u64 d, .int .i64 p, .bool false] w fun e w' => e = .returned (.tuple #[.float .f64 g, .bool ok]) ∧ Below w.heap.size w w'
set_option maxRecDepth 1000000 in
set_option maxHeartbeats 1600000 in
theorem atof_exact (s : ByteArray) (d : Nat) (p : Int) (f : Nat) (h : RDs s d p) (hd : d ≠ 0) (hp : ¬ p < -345) (hp2 : ¬ 310 < p) (hx : EX d p f true) : AT s f false := by
  intro w hG
  have h6 := hG.glob.knows.ways
  have HS := Lib.hid (fun w => special_dig s h.1 w)
  have HR := Lib.hid h.2
  have HX := Lib.hid (hx w hG)
  have hd2 : ((d : Int) == 0) = false := by simpa using hd
  clear hG h hd hx
  go_enter Tryz.func121, Tryz.ntmps121
  go_wp2_with (first | (go_at_call 134; refine (HS.out _).mono ?_; rintro e w' ⟨rfl, rfl⟩) | (go_at_call 135; refine (HR.out _).mono ?_; rintro e w' ⟨rfl, rfl⟩) | (go_at_call 143; refine (bool2_false _).mono ?_; rintro e w' ⟨rfl, rfl⟩) | (go_at_call 145; refine HX.out.mono ?_; rintro e w1 ⟨rfl, hb1⟩))
  exact bodyPost_ret (v := .tuple #[.float .f64 f, .int .i64 s.size, .nilIface]) (by simp [results, Tryz.results121, go_sem]) rfl ⟨rfl, hb1⟩
/-- The scaled road. -/
def PF (d : Nat) (p : Int) (f : Nat) (b : Bool) : Prop := ∀ w, Glob2 w → Calls Tryz.prog 146 #[.int .u64 d, .int .i64 p, .int .u64 0] w fun e w' => e = .returned (.tuple #[.float .f64 f, rangeErr b]) ∧ Below w.heap.size w w'
set_option maxRecDepth 1000000 in
set_option maxHeartbeats 1600000 in
theorem atof_pf (s : ByteArray) (d : Nat) (p : Int) (g f : Nat) (b : Bool) (h : RDs s d p) (hd : d ≠ 0) (hp : ¬ p < -345) (hp2 : ¬ 310 < p) (hx : EX d p g false) (hpf : PF d p f b) : AT s f b := by
  intro w hG
  have h6 := hG.glob.knows.ways
  have HS := Lib.hid (fun w => special_dig s h.1 w)
  have HR := Lib.hid h.2
  have HX := Lib.hid (hx w hG)
  have HP := Lib.hid (fun w' (hb : Below w.heap.size w w') => hpf w' (hG.below hb))
  have hd2 : ((d : Int) == 0) = false := by simpa using hd
  clear hG h hd hx hpf
  go_enter Tryz.func121, Tryz.ntmps121
  go_wp2_with (first | (go_at_call 134; refine (HS.out _).mono ?_; rintro e w' ⟨rfl, rfl⟩) | (go_at_call 135; refine (HR.out _).mono ?_; rintro e w' ⟨rfl, rfl⟩) | (go_at_call 143; refine (bool2_false _).mono ?_; rintro e w' ⟨rfl, rfl⟩) | (go_at_call 145; refine HX.out.mono ?_; rintro e w1 ⟨rfl, hb1⟩) | (go_at_call 146; refine (HP.out _ hb1).mono ?_; rintro e w2 ⟨rfl, hb2⟩))
  exact bodyPost_ret (v := .tuple #[.float .f64 f, .int .i64 s.size, rangeErr b]) (by simp [results, Tryz.results121, go_sem]) rfl ⟨rfl, below_then hb1 hb2⟩

/-- strconv.ParseFloat. -/
theorem parse_ok (s : ByteArray) (f : Nat) (h : AT s f false) (w : World) (hG : Glob2 w) : Calls Tryz.prog 55 #[.string s, .int .i64 64] w fun e w' => e = .returned (.tuple #[.float .f64 f, .nilIface]) ∧ Below w.heap.size w w' := by
  have HA := Lib.hid (show Calls Tryz.prog 121 #[.string s] w fun e w' => e = .returned (.tuple #[.float .f64 f, .int .i64 s.size, .nilIface]) ∧ Below w.heap.size w w' from h w hG)
  have HB : RowKit.Hid (Calls Tryz.prog 104 #[.string s, .int .i64 64] w fun e w' => e = .returned (.tuple #[.float .f64 f, .int .i64 s.size, .nilIface]) ∧ Below w.heap.size w w') := Lib.hid (by
    clear h hG
    go_enter Tryz.func104, Tryz.ntmps104
    go_wp2_with (go_at_call 121; refine HA.out.mono ?_; rintro e w' ⟨rfl, hb⟩)
    exact bodyPost_ret (v := .tuple #[.float .f64 f, .int .i64 s.size, .nilIface]) (by simp [results, Tryz.results104, go_sem]) rfl ⟨rfl, hb⟩)
  clear HA
  have HC : RowKit.Hid (Calls Tryz.prog 86 #[.string s, .int .i64 64] w fun e w' => e = .returned (.tuple #[.float .f64 f, .nilIface]) ∧ Below w.heap.size w w') := Lib.hid (by
    clear h hG
    go_enter Tryz.func86, Tryz.ntmps86
    go_wp2_with (go_at_call 104; refine HB.out.mono ?_; rintro e w' ⟨rfl, hb⟩)
    go_ret2
    exact ⟨rfl, hb⟩)
  clear h hG HB
  go_enter Tryz.func55, Tryz.ntmps55
  go_wp2_with (go_at_call 86; refine HC.out.mono ?_; rintro e w' ⟨rfl, hb⟩)
  go_ret2
  exact ⟨rfl, hb⟩
theorem parse_err (s : ByteArray) (f : Nat) (h : AT s f true) (hs : s.size ≤ 60) (w : World) (hG : Glob2 w) : Calls Tryz.prog 55 #[.string s, .int .i64 64] w fun e w' => (∃ N : Nat, e = .returned (.tuple #[.float .f64 f, .iface 114 (.pointer (some ⟨N, 0, none⟩))])) ∧ Below w.heap.size w w' := by
  have HA := Lib.hid (show Calls Tryz.prog 121 #[.string s] w fun e w' => e = .returned (.tuple #[.float .f64 f, .int .i64 s.size, .iface 111 (.int .i64 1)]) ∧ Below w.heap.size w w' from h w hG)
  have HB : RowKit.Hid (Calls Tryz.prog 104 #[.string s, .int .i64 64] w fun e w' => e = .returned (.tuple #[.float .f64 f, .int .i64 s.size, .iface 111 (.int .i64 1)]) ∧ Below w.heap.size w w') := Lib.hid (by
    clear h hG
    go_enter Tryz.func104, Tryz.ntmps104
    go_wp2_with (go_at_call 121; refine HA.out.mono ?_; rintro e w' ⟨rfl, hb⟩)
    exact bodyPost_ret (v := .tuple #[.float .f64 f, .int .i64 s.size, .iface 111 (.int .i64 1)]) (by simp [results, Tryz.results104, go_sem]) rfl ⟨rfl, hb⟩)
  clear HA
  have HC : RowKit.Hid (Calls Tryz.prog 86 #[.string s, .int .i64 64] w fun e w' => e = .returned (.tuple #[.float .f64 f, .iface 111 (.int .i64 1)]) ∧ Below w.heap.size w w') := Lib.hid (by
    clear h hG
    go_enter Tryz.func86, Tryz.ntmps86
    go_wp2_with (go_at_call 104; refine HB.out.mono ?_; rintro e w' ⟨rfl, hb⟩)
    go_ret2
    exact ⟨rfl, hb⟩)
  have HT := Lib.hid (show ∀ w', Below w.heap.size w w' → Calls Tryz.prog 82 #[.string ⟨#[80, 97, 114, 115, 101, 70, 108, 111, 97, 116]⟩, .string s, .int .i64 0, .int .i64 64, .iface 111 (.int .i64 1)] w' fun e w2 => (∃ N : Nat, e = .returned (.iface 114 (.pointer (some ⟨N, 0, none⟩)))) ∧ Below w'.heap.size w' w2 from fun w' hb => by
    obtain ⟨ev, h1, h2⟩ := (hG.below hb).err
    exact (Tryz.strconv_toError_range ⟨#[80, 97, 114, 115, 101, 70, 108, 111, 97, 116]⟩ s 0 64 ev w' (by omega) h1 h2).mono fun e w2 ⟨N, h3, _, _, h4⟩ => ⟨⟨N, h3⟩, h4⟩)
  clear h hG HB
  go_enter Tryz.func55, Tryz.ntmps55
  go_wp2_with (first | (go_at_call 86; refine HC.out.mono ?_; rintro e w' ⟨rfl, hb⟩) | (go_at_call 82; refine (HT.out _ hb).mono ?_; rintro e w2 ⟨⟨N, rfl⟩, hb2⟩))
  go_ret2
  exact ⟨⟨N, rfl⟩, below_then hb hb2⟩

/-- num.Float. -/
theorem numFloat_ok (s : ByteArray) (f : Nat) (h : AT s f false) (hs : s.size ≤ 60) (w : World) (hG : Glob2 w) (hf : Calls Tryz.prog 54 #[.string s] w fun e w' => e = .returned (.bool true) ∧ Below w.heap.size w w') :
    Calls Tryz.prog 15 #[.string s] w fun e w' => e = .returned (.tuple #[.float .f64 f, .int .i64 0]) ∧ Below w.heap.size w w' := by
  have HF := Lib.hid hf
  have HP := Lib.hid (fun w' (hb : Below w.heap.size w w') => parse_ok s f h w' (hG.below hb))
  have hs2 : ¬ (60 : Int) < (s.size : Int) := by omega
  clear h hG hf
  go_enter Tryz.func15, Tryz.ntmps15
  go_wp2_with (first | (go_at_call 54; refine HF.out.mono ?_; rintro e w1 ⟨rfl, hb1⟩) | (go_at_call 55; refine (HP.out _ hb1).mono ?_; rintro e w2 ⟨rfl, hb2⟩))
  go_ret2
  exact ⟨rfl, below_then hb1 hb2⟩
theorem numFloat_err (s : ByteArray) (f : Nat) (h : AT s f true) (hs : s.size ≤ 60) (w : World) (hG : Glob2 w) (hf : Calls Tryz.prog 54 #[.string s] w fun e w' => e = .returned (.bool true) ∧ Below w.heap.size w w') :
    Calls Tryz.prog 15 #[.string s] w fun e w' => e = .returned (.tuple #[.float .f64 0, .int .i64 3]) ∧ Below w.heap.size w w' := by
  have HF := Lib.hid hf
  have HP := Lib.hid (fun w' (hb : Below w.heap.size w w') => parse_err s f h hs w' (hG.below hb))
  have hs2 : ¬ (60 : Int) < (s.size : Int) := by omega
  clear h hG hf
  go_enter Tryz.func15, Tryz.ntmps15
  go_wp2_with (first | (go_at_call 54; refine HF.out.mono ?_; rintro e w1 ⟨rfl, hb1⟩) | (go_at_call 55; refine (HP.out _ hb1).mono ?_; rintro e w2 ⟨⟨N, rfl⟩, hb2⟩))
  go_ret2
  exact ⟨rfl, below_then hb1 hb2⟩
theorem numFloat_not (s : ByteArray) (hs : s.size ≤ 60) (w : World) (hf : Calls Tryz.prog 54 #[.string s] w fun e w' => e = .returned (.bool false) ∧ Below w.heap.size w w') :
    Calls Tryz.prog 15 #[.string s] w fun e w' => e = .returned (.tuple #[.float .f64 0, .int .i64 4]) ∧ Below w.heap.size w w' := by
  have HF := Lib.hid hf
  have hs2 : ¬ (60 : Int) < (s.size : Int) := by omega
  clear hf
  go_enter Tryz.func15, Tryz.ntmps15
  go_wp2_with (go_at_call 54; refine HF.out.mono ?_; rintro e w1 ⟨rfl, hb1⟩)
  go_ret2
  exact ⟨rfl, hb1⟩
end Go.Proofs.YtoonneminimbfaaGreatDoor
