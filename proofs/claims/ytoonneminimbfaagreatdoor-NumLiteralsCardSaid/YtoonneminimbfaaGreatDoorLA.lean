/- Words for the walks of this seat. num.digits, num.natural. internal/strconv's reading of the text 1.5. num.Float of the text 1.5. num.natural; num.Int and num.Float at the texts of the law's small thing. strconv.FormatUint to the base 16. num.Show. -/
import Derived.Test.YtoonneminimbfaaGreatDoorRows
import Derived.WalkKit
import Derived.Outline
import Derived.Lib.Hide
import Derived.WalkLawsBesides
import Derived.WalkSpells
import Derived.OwnWalk
import Derived.Deep.QuietTactic
import Derived.BigQuiet
import Derived.Test.YtoonneminimbfaaGreatDoorShelf
import Derived.Laws.BytesString
import Derived.Laws.Bits64b
namespace Go.Proofs.YtoonneminimbfaaGreatDoor
section
open Go.RowKit

theorem ret_int {k : IntKind} {a b : Int} (h : a = b) : Ending.returned (.int k a) = .returned (.int k b) := by rw [h]
theorem ret_bool {a b : Bool} (h : a = b) : Ending.returned (.bool a) = .returned (.bool b) := by rw [h]
theorem ret_int_bool {k : IntKind} {a b : Int} {c d : Bool} (h : a = b) (h' : c = d) : Ending.returned (.tuple #[.int k a, .bool c]) = .returned (.tuple #[.int k b, .bool d]) := by rw [h, h']
theorem ret_str {a b : ByteArray} (h : a = b) : Ending.returned (.string a) = .returned (.string b) := by rw [h]
theorem ret_float {a b : Nat} (h : a = b) : Ending.returned (.float .f64 a) = .returned (.float .f64 b) := by rw [h]
end

section
open Go.RowKit
set_option linter.unusedVariables false
set_option linter.unusedSimpArgs false

def isDig (c : UInt8) : Bool := decide (48 ≤ c.toNat) && decide (c.toNat ≤ 57)
def digN (l : List UInt8) : Nat := (l.takeWhile isDig).length
theorem digN_le (l : List UInt8) : digN l ≤ l.length := by
  unfold digN
  exact (List.takeWhile_sublist isDig).length_le
theorem digN_at {l : List UInt8} {k : Nat} (hk : k ≤ l.length) (h : ∀ c ∈ l.take k, isDig c = true) (hs : k = l.length ∨ ∃ c, l[k]? = some c ∧ isDig c = false) : digN l = k := by
  unfold digN
  induction l generalizing k with
  | nil => simp at hk ⊢; omega
  | cons x l ih =>
    cases k with
    | zero =>
      rcases hs with hs | ⟨c, hc, hd⟩
      · simp at hs
      · simp at hc; subst hc; simp [hd]
    | succ k =>
      have hx : isDig x = true := h x (by simp)
      simp only [List.takeWhile_cons, hx, if_true, List.length_cons]
      rw [ih (k := k) (by simp at hk; omega) (fun c hc => h c (by simp [hc])) (by
        rcases hs with hs | ⟨c, hc, hd⟩
        · left; simp at hs; omega
        · right; exact ⟨c, by simpa using hc, hd⟩)]

set_option maxHeartbeats 800000 in
theorem digits_any (s : ByteArray) (w : World) (hs : s.size ≤ 9223372036854775807) :
    Calls Tryz.prog 80 #[.string s] w fun e w' => e = .returned (.int .i64 (digN s.data.toList)) ∧ w = w' := by
  go_enter Tryz.func80, Tryz.ntmps80
  go_wp2_with fail
  go_step3
  go_wp2_with fail
  go_step3
  go_wp2_with fail
  go_loop [3, 4] (fun n _ => ∃ k : Nat, k ≤ s.size ∧ n = .int .i64 k ∧ ∀ c ∈ s.data.toList.take k, isDig c = true) (fun n _ => s.size - (intOf n).toNat)
  case atStart => exact ⟨0, Nat.zero_le _, rfl, by simp⟩
  case round =>
    obtain ⟨k, hk, rfl, hd⟩ := hrel
    have HD := Lib.hid hd
    clear hd
    have hsz : s.data.toList.length = s.size := rfl
    by_cases hlt : k < s.size
    · have hget : s.data.toList[k]? = some s[k] := by
        rw [List.getElem?_eq_getElem (by rw [hsz]; exact hlt)]; rfl
      have HG := Lib.hid hget
      have HZ := Lib.hid hsz
      clear hget hsz
      obtain ⟨c, hc⟩ : ∃ c, s[k] = c := ⟨_, rfl⟩
      have HGc := Lib.hid (HG.out.trans (congrArg some hc))
      by_cases hdig : isDig c = true
      · have h1 : ¬ (c.toNat : Int) < 48 := by simp [isDig] at hdig; omega
        have h2 : ¬ (57 : Int) < (c.toNat : Int) := by simp [isDig] at hdig; omega
        have HDG := Lib.hid hdig
        clear hdig
        go_wp2_with fail
        go_round
        case rel =>
          refine ⟨k + 1, by omega, by go_num, fun x hx => ?_⟩
          rw [List.take_add_one, HGc.out] at hx
          simp at hx
          rcases hx with hx | hx
          · exact HD.out x hx
          · rw [hx]; exact HDG.out
        case measure => simp [intOf]; omega
      · have hE := Lib.hid (digN_at (k := k) (l := s.data.toList) (by rw [HZ.out]; omega) HD.out (.inr ⟨c, HGc.out, by simpa using hdig⟩))
        have HE := Lib.hid hE
        clear hE
        by_cases h1 : (c.toNat : Int) < 48
        · clear hdig
          go_wp2_with fail
          first | go_ret | (rw [Exit.noGoto_ret]; go_ret)
          exact ⟨ret_int (by rw [HE.out]), rfl⟩
        · have h2 : (57 : Int) < (c.toNat : Int) := by simp [isDig] at hdig; omega
          clear hdig
          go_wp2_with fail
          first | go_ret | (rw [Exit.noGoto_ret]; go_ret)
          exact ⟨ret_int (by rw [HE.out]), rfl⟩
    · obtain rfl : k = s.size := by omega
      have hE := digN_at (k := s.size) (l := s.data.toList) (by rw [hsz]; omega) HD.out (.inl hsz.symm)
      have HE := Lib.hid hE
      clear hE hsz
      go_wp2_with fail
      first | go_ret | (rw [Exit.noGoto_ret]; go_ret)
      exact ⟨ret_int (by rw [HE.out]), rfl⟩
end

section
open Go.RowKit
set_option linter.unusedVariables false
set_option linter.unusedSimpArgs false

set_option maxRecDepth 1000000 in
set_option maxHeartbeats 3200000 in
theorem read15 (w : World) : Calls Tryz.prog 135 #[.string ⟨#[49, 46, 53]⟩] w fun e w' => e = .returned (.tuple #[.int .u64 15, .int .i64 (-1), .bool false, .bool false, .bool false, .int .i64 3, .bool true]) ∧ w = w' := by
  go_enter Tryz.func135, Tryz.ntmps135
  go_wp2_with fail
  go_step3
  go_wp2_with fail
  go_step3
  go_wp2_with fail
  go_loop [2, 5, 7, 9, 13, 14, 15, 16, 17, 18] (fun mant trunc i und dot dig nd ndm dp _ => trunc = .bool false ∧ und = .bool false ∧
    ((i = .int .i64 0 ∧ mant = .int .u64 0 ∧ dot = .bool false ∧ dig = .bool false ∧ nd = .int .i64 0 ∧ ndm = .int .i64 0 ∧ dp = .int .i64 0) ∨
     (i = .int .i64 1 ∧ mant = .int .u64 1 ∧ dot = .bool false ∧ dig = .bool true ∧ nd = .int .i64 1 ∧ ndm = .int .i64 1 ∧ dp = .int .i64 0) ∨
     (i = .int .i64 2 ∧ mant = .int .u64 1 ∧ dot = .bool true ∧ dig = .bool true ∧ nd = .int .i64 1 ∧ ndm = .int .i64 1 ∧ dp = .int .i64 1) ∨
     (i = .int .i64 3 ∧ mant = .int .u64 15 ∧ dot = .bool true ∧ dig = .bool true ∧ nd = .int .i64 2 ∧ ndm = .int .i64 2 ∧ dp = .int .i64 1)))
    (fun _ _ i _ _ _ _ _ _ _ => 3 - (intOf i).toNat)
  case atStart => exact ⟨rfl, rfl, .inl ⟨rfl, rfl, rfl, rfl, rfl, rfl, rfl⟩⟩
  case round =>
    obtain ⟨rfl, rfl, h⟩ := hrel
    rcases h with ⟨rfl, rfl, rfl, rfl, rfl, rfl, rfl⟩ | ⟨rfl, rfl, rfl, rfl, rfl, rfl, rfl⟩ | ⟨rfl, rfl, rfl, rfl, rfl, rfl, rfl⟩ | ⟨rfl, rfl, rfl, rfl, rfl, rfl, rfl⟩
    · go_wp2_with fail
      go_round
      case rel => exact ⟨rfl, rfl, .inr (.inl ⟨rfl, rfl, rfl, rfl, rfl, rfl, rfl⟩)⟩
      case measure => simp [intOf]
    · go_wp2_with fail
      go_round
      case rel => exact ⟨rfl, rfl, .inr (.inr (.inl ⟨rfl, rfl, rfl, rfl, rfl, rfl, rfl⟩))⟩
      case measure => simp [intOf]
    · go_wp2_with fail
      go_round
      case rel => exact ⟨rfl, rfl, .inr (.inr (.inr ⟨rfl, rfl, rfl, rfl, rfl, rfl, rfl⟩))⟩
      case measure => simp [intOf]
    · go_wp2_with fail
      go_outline
      first | rw [Exit.noGoto_ret] | skip
      exact bodyPost_ret (v := .tuple #[.int .u64 15, .int .i64 (-1), .bool false, .bool false, .bool false, .int .i64 3, .bool true]) (by simp [results, Tryz.results135, go_sem]) rfl ⟨rfl, rfl⟩
end

section
open Go.RowKit
set_option linter.unusedVariables false
set_option linter.unusedSimpArgs false

/-- What the library's variables hold that are read here: the greatest length for a search, float64's width, whether there are short ways, the powers of ten. -/
structure Knows (w : World) : Prop where
  maxlen : ∃ m, w.cell? ⟨4, 0, none⟩ = some (.int .i64 m)
  width : w.cell? ⟨7, 0, none⟩ = some (.int .u64 52)
  ways : w.cell? ⟨6, 0, none⟩ = some (.bool true)
  pows : ∃ pb po c, w.cell? ⟨10, 0, none⟩ = some (.slice (some ⟨pb, po, none⟩) 23 c) ∧ w.cell? ⟨pb, po + 1, none⟩ = some (.float .f64 4621819117588971520)

set_option maxRecDepth 1000000 in
set_option maxHeartbeats 1600000 in
theorem special15 (w : World) : Calls Tryz.prog 134 #[.string ⟨#[49, 46, 53]⟩] w fun e w' => e = .returned (.tuple #[.float .f64 0, .int .i64 0, .bool false]) ∧ w = w' := by
  go_enter Tryz.func134, Tryz.ntmps134
  go_wp2_with fail
  exact bodyPost_ret (v := .tuple #[.float .f64 0, .int .i64 0, .bool false]) (by simp [results, Tryz.results134, go_sem]) rfl ⟨rfl, rfl⟩

set_option maxRecDepth 1000000 in
set_option maxHeartbeats 1600000 in
theorem exact15 (w : World) (h : Knows w) : Calls Tryz.prog 145 #[.int .u64 15, .int .i64 (-1), .bool false] w fun e w' => e = .returned (.tuple #[.float .f64 4609434218613702656, .bool true]) ∧ ∃ n, w' = w.drewN n := by
  obtain ⟨pb, po, c, h1, h2⟩ := h.pows
  have h3 := h.width
  have hq : ∀ w : World, (binOp .quo 27 (.float .f64 (floatOfInt .f64 15)) (.float .f64 4621819117588971520)).run Tryz.prog w = .ok (.float .f64 4609434218613702656) w := fun w => run_float_arith w .quo 27 .f64 _ _ _ (by kernel_rfl)
  go_enter Tryz.func145, Tryz.ntmps145
  go_wp2_with fail
  go_ret2
  exact ⟨rfl, 0, rfl⟩

set_option maxRecDepth 1000000 in
theorem bool2_false (w : World) : Calls Tryz.prog 143 #[.bool false] w fun e w' => e = .returned (.int .u64 0) ∧ w = w' := by
  go_enter Tryz.func143, Tryz.ntmps143
  go_wp2_with fail
  go_ret
  exact ⟨rfl, rfl⟩

set_option maxRecDepth 1000000 in
set_option maxHeartbeats 1600000 in
theorem atof15 (w : World) (h : Knows w) : Calls Tryz.prog 121 #[.string ⟨#[49, 46, 53]⟩] w fun e w' => e = .returned (.tuple #[.float .f64 4609434218613702656, .int .i64 3, .nilIface]) ∧ ∃ n, w' = w.drewN n := by
  have HK := Lib.hid h
  have h6 := h.ways
  clear h
  go_enter Tryz.func121, Tryz.ntmps121
  go_wp2_with (first | (go_at_call 134; refine (special15 _).mono ?_; rintro e w' ⟨rfl, rfl⟩) | (go_at_call 135; refine (read15 _).mono ?_; rintro e w' ⟨rfl, rfl⟩) | (go_at_call 143; refine (bool2_false _).mono ?_; rintro e w' ⟨rfl, rfl⟩) | (go_at_call 145; refine (exact15 _ HK.out).mono ?_; rintro e w' ⟨rfl, n, rfl⟩))
  exact bodyPost_ret (v := .tuple #[.float .f64 4609434218613702656, .int .i64 3, .nilIface]) (by simp [results, Tryz.results121, go_sem]) rfl ⟨rfl, n, rfl⟩

set_option maxRecDepth 1000000 in
set_option maxHeartbeats 1600000 in
theorem prefix15 (w : World) (h : Knows w) : Calls Tryz.prog 104 #[.string ⟨#[49, 46, 53]⟩, .int .i64 64] w fun e w' => e = .returned (.tuple #[.float .f64 4609434218613702656, .int .i64 3, .nilIface]) ∧ ∃ n, w' = w.drewN n := by
  have HK := Lib.hid h
  clear h
  go_enter Tryz.func104, Tryz.ntmps104
  go_wp2_with (go_at_call 121; refine (atof15 _ HK.out).mono ?_; rintro e w' ⟨rfl, n, rfl⟩)
  exact bodyPost_ret (v := .tuple #[.float .f64 4609434218613702656, .int .i64 3, .nilIface]) (by simp [results, Tryz.results104, go_sem]) rfl ⟨rfl, n, rfl⟩

theorem parse15 (w : World) (h : Knows w) : Calls Tryz.prog 86 #[.string ⟨#[49, 46, 53]⟩, .int .i64 64] w fun e w' => e = .returned (.tuple #[.float .f64 4609434218613702656, .nilIface]) ∧ ∃ n, w' = w.drewN n := by
  have HK := Lib.hid h
  clear h
  go_enter Tryz.func86, Tryz.ntmps86
  go_wp2_with (go_at_call 104; refine (prefix15 _ HK.out).mono ?_; rintro e w' ⟨rfl, n, rfl⟩)
  go_ret2
  exact ⟨rfl, n, rfl⟩

theorem parseFloat15 (w : World) (h : Knows w) : Calls Tryz.prog 55 #[.string ⟨#[49, 46, 53]⟩, .int .i64 64] w fun e w' => e = .returned (.tuple #[.float .f64 4609434218613702656, .nilIface]) ∧ ∃ n, w' = w.drewN n := by
  have HK := Lib.hid h
  clear h
  go_enter Tryz.func55, Tryz.ntmps55
  go_wp2_with (go_at_call 86; refine (parse15 _ HK.out).mono ?_; rintro e w' ⟨rfl, n, rfl⟩)
  go_ret2
  exact ⟨rfl, n, rfl⟩
end

section
open Go.RowKit
set_option linter.unusedVariables false
set_option linter.unusedSimpArgs false

def natV (l : List UInt8) : Bool := !l.isEmpty && decide (digN l = l.length) && (decide (l.length = 1) || decide (l[0]? ≠ some 48))

set_option maxHeartbeats 1600000 in
theorem natural_any (s : ByteArray) (w : World) (hs : s.size ≤ 9223372036854775807) :
    Calls Tryz.prog 51 #[.string s] w fun e w' => e = .returned (.bool (natV s.data.toList)) ∧ w = w' := by
  have hsz : s.data.toList.length = s.size := rfl
  by_cases h0 : s.size = 0
  · have he : s.data.toList.isEmpty = true := by
      rw [List.isEmpty_iff]; exact List.eq_nil_of_length_eq_zero (by rw [hsz]; exact h0)
    have he2 : s.data.toList = [] := by simpa using he
    have HV := Lib.hid (show natV s.data.toList = false by simp [natV, he])
    have t1 : s.toList = [] := by rw [ByteArray.toList_eq]; exact he2
    have t2 : (!s.toList.isEmpty) = false := by rw [t1]; rfl
    clear he he2
    go_enter Tryz.func51, Tryz.ntmps51
    go_wp2_with fail
    go_ret
    exact ⟨ret_bool HV.out.symm, rfl⟩
  · have he : s.data.toList.isEmpty = false := by
      cases hc : s.data.toList.isEmpty
      · rfl
      · rw [List.isEmpty_iff] at hc; rw [hc] at hsz; simp at hsz; omega
    have hpos : 0 < s.size := by omega
    have hget : s.data.toList[0]? = some s[0] := by rw [List.getElem?_eq_getElem (by rw [hsz]; exact hpos)]; rfl
    have HV := Lib.hid (show natV s.data.toList = (decide (digN s.data.toList = s.size) && (decide (s.size = 1) || decide (s[0] ≠ 48))) by simp [natV, he, hsz, hget])
    have HD := Lib.hid (digits_any s w hs)
    have hdl := digN_le s.data.toList
    rw [hsz] at hdl
    have t1 : ¬ s.toList = [] := by rw [ByteArray.toList_eq]; intro hc; rw [hc] at hsz; simp at hsz; omega
    have t2 : (!s.toList.isEmpty) = true := by simpa using t1
    obtain ⟨c, hc⟩ : ∃ c, s[0] = c := ⟨_, rfl⟩
    rw [hc] at HV
    generalize natV s.data.toList = V at *
    generalize digN s.data.toList = d at *
    clear hget hsz h0 he
    by_cases h1 : d = s.size
    · have h1' : (d : Int) = (s.size : Int) := by omega
      by_cases h2 : s.size = 1
      · have HW := Lib.hid (show V = true by rw [HV.out]; simp [h1, h2])
        have h2' : (s.size : Int) = 1 := by omega
        subst h1
        have H2 := Lib.hid h2
        clear h2 h1'
        go_enter Tryz.func51, Tryz.ntmps51
        go_wp2_with (go_at_call 80; refine HD.out.mono ?_; rintro e w' ⟨rfl, rfl⟩)
        go_ret
        exact ⟨ret_bool HW.out.symm, rfl⟩
      · have h2' : ¬ (s.size : Int) = 1 := by omega
        by_cases h3 : c = 48
        · have HW := Lib.hid (show V = false by rw [HV.out]; simp [h1, h2, h3])
          subst h1
          have hd2 : ((s.size : Int) == 1) = false := by simpa using h2'
          have hn : ((c.toNat : Int) != 48) = false := by rw [h3]; rfl
          have hn2 : (c.toNat : Int) = 48 := by rw [h3]; rfl
          clear h2 h1' h3
          go_enter Tryz.func51, Tryz.ntmps51
          go_wp2_with (go_at_call 80; refine HD.out.mono ?_; rintro e w' ⟨rfl, rfl⟩)
          go_ret
          exact ⟨ret_bool HW.out.symm, rfl⟩
        · have HW := Lib.hid (show V = true by rw [HV.out]; simp [h1, h3])
          subst h1
          have hd2 : ((s.size : Int) == 1) = false := by simpa using h2'
          have hc48 : c.toNat ≠ 48 := fun e => h3 (UInt8.toNat_inj.1 (by rw [e]; rfl))
          have hn : ((c.toNat : Int) != 48) = true := by simp; omega
          have hn2 : ¬ (c.toNat : Int) = 48 := by omega
          clear h2 h1' h3
          go_enter Tryz.func51, Tryz.ntmps51
          go_wp2_with (go_at_call 80; refine HD.out.mono ?_; rintro e w' ⟨rfl, rfl⟩)
          go_ret
          exact ⟨ret_bool HW.out.symm, rfl⟩
    · have HW := Lib.hid (show V = false by rw [HV.out]; simp [h1])
      have h1' : ¬ (d : Int) = (s.size : Int) := by omega
      have hdd : decide (d = s.size) = false := by simpa using h1
      clear h1
      go_enter Tryz.func51, Tryz.ntmps51
      go_wp2_with (go_at_call 80; refine HD.out.mono ?_; rintro e w' ⟨rfl, rfl⟩)
      go_ret
      exact ⟨ret_bool HW.out.symm, rfl⟩
end

section
open Go.RowKit
set_option linter.unusedVariables false
set_option linter.unusedSimpArgs false

def digs : List UInt8 := [48, 49, 50, 51, 52, 53, 54, 55, 56, 57, 97, 98, 99, 100, 101, 102]
def hexc (n : Nat) : UInt8 := digs.getD n 0

/-- The digits to the base 16, the greatest first. -/
def hexD : Nat → Nat → List UInt8
  | 0, _ => []
  | f + 1, u => if u < 16 then [hexc u] else hexD f (u / 16) ++ [hexc (u % 16)]
def hexV (u : Nat) : List UInt8 := hexD 16 u
theorem hexD_more : ∀ (f u : Nat), u < 16 ^ f → 0 < f → hexD (f + 1) u = hexD f u := by
  intro f
  induction f with
  | zero => intro u h1 h2; omega
  | succ f ih =>
    intro u h1 h2
    by_cases hu : u < 16
    · simp [hexD, hu]
    · rw [hexD, if_neg hu, show hexD (f + 1) u = hexD f (u / 16) ++ [hexc (u % 16)] by rw [hexD, if_neg hu]]
      rw [ih (u / 16) (by rw [Nat.div_lt_iff_lt_mul (by omega)]; rw [Nat.pow_succ] at h1; omega) (by
        rcases Nat.eq_zero_or_pos f with h | h
        · subst h; simp at h1; omega
        · exact h)]
theorem hexD_len : ∀ (f u : Nat), (hexD f u).length ≤ f := by
  intro f
  induction f with
  | zero => intro u; simp [hexD]
  | succ f ih =>
    intro u
    rw [hexD]
    split
    · simp
    · have := ih (u / 16); simp; omega

theorem slice65 (g i : Nat) (hi : i < 65) (X : World) : (Instr.sliceAt 143 (.pointer (some ⟨g, 0, none⟩)) (some (.int .i64 (i : Int))) none none).run Tryz.prog X = .ok (.slice (some ⟨g, i, none⟩) (65 - i) (65 - i)) X := by
  have h1 : Tryz.prog.arrayLen 143 = 65 := by kernel_rfl
  have h2 : Tryz.prog.elem 143 = 5 := by kernel_rfl
  have hu : Tryz.prog.underlying 143 = some (.array (Tryz.prog.arrayLen 143) (Tryz.prog.elem 143)) := by kernel_rfl
  rw [run_sliceAt_array_l X 143 ⟨g, 0, none⟩ hu .i64 i (by omega) (by rw [h1]; omega), h1, h2, Tryz.sizeOf5]
  have : ¬ 65 = i := by omega
  simp [Result.andThen, slicedAt, this, Addr.add]
  omega
theorem isPow16 (w : World) : Calls Tryz.prog 125 #[.int .i64 16] w fun e w' => e = .returned (.bool true) ∧ w = w' := by
  go_enter Tryz.func125, Tryz.ntmps125
  go_wp2_with fail
  go_ret
  exact ⟨ret_bool (by first | rfl | decide), rfl⟩

theorem tz64_16 (w : World) (h : w.cell? ⟨12, 15, none⟩ = some (.int .u8 4)) : Calls Tryz.prog 148 #[.int .u64 16] w fun e w' => e = .returned (.int .i64 4) ∧ w = w' := by
  have hi : IntKind.u64.wrap (bits BinOp.and IntKind.u64 16 (IntKind.u64.wrap (-16)) * 285870213051353865) / 288230376151711744 = 15 := by decide
  go_enter Tryz.func148, Tryz.ntmps148
  go_wp2_with fail
  go_ret
  exact ⟨rfl, rfl⟩

theorem tz_16 (w : World) (h : w.cell? ⟨12, 15, none⟩ = some (.int .u8 4)) : Calls Tryz.prog 126 #[.int .u64 16] w fun e w' => e = .returned (.int .i64 4) ∧ w = w' := by
  go_enter Tryz.func126, Tryz.ntmps126
  go_wp2_with (go_at_call 148; refine (tz64_16 _ h).mono ?_; rintro e w' ⟨rfl, rfl⟩)
  go_ret
  exact ⟨rfl, rfl⟩

/-- The array's block: the digits S from i on. -/
def Bits (g : Nat) (i : Nat) (S : List UInt8) (X : World) : Prop :=
  ∃ arr, X.heap[g]? = some (.cells arr 143 (0, 0)) ∧ arr.size = 65 ∧ ∀ j c, S[j]? = some c → arr[i + j]? = some (.int .u8 c.toNat)

theorem Bits.set {g i : Nat} {S : List UInt8} {X : World} (h : Bits g i S X) (h0 : 0 < i) (hi : i ≤ 65) (c : UInt8) : Bits g (i - 1) (c :: S) (X.setCell ⟨g, i - 1, none⟩ (.int .u8 c.toNat)) := by
  obtain ⟨arr, ha, hs, hc⟩ := h
  refine ⟨arr.setIfInBounds (i - 1) (.int .u8 c.toNat), ?_, by simpa using hs, fun j d hj => ?_⟩
  · simp only [World.setCell, Array.getElem?_modify]
    simp [ha]
  · cases j with
    | zero =>
      simp at hj
      subst hj
      rw [Nat.add_zero, Array.getElem?_setIfInBounds_self_of_lt (by omega)]
    | succ j =>
      simp at hj
      rw [Array.getElem?_setIfInBounds_ne (by omega), show i - 1 + (j + 1) = i + j by omega]
      exact hc j d hj
theorem Bits.cell {g i : Nat} {S : List UInt8} {X : World} (h : Bits g i S X) (j : Nat) (c : UInt8) (hj : S[j]? = some c) : X.cell? ⟨g, i + j, none⟩ = some (.int .u8 c.toNat) := by
  obtain ⟨arr, ha, hs, hc⟩ := h
  simp only [World.cell?, ha]
  simpa using hc j c hj

def dig36 : ByteArray := ⟨#[48, 49, 50, 51, 52, 53, 54, 55, 56, 57, 97, 98, 99, 100, 101, 102, 103, 104, 105, 106, 107, 108, 109, 110, 111, 112, 113, 114, 115, 116, 117, 118, 119, 120, 121, 122]⟩
theorem dig_all : ∀ q : Fin 16, dig36[q.val]'(by have := q.isLt; show q.val < 36; omega) = hexc q.val := by decide
theorem dig_at (q : Nat) (h : q < 16) (h' : q < dig36.size) : dig36[q] = hexc q := by
  exact dig_all ⟨q, h⟩
theorem and15 (v : Nat) (h : v < 18446744073709551616) : bits .and .u64 (v : Int) 15 = ((v % 16 : Nat) : Int) := by
  have h1 := bits_and_u64_nat v 15 h (by decide)
  have h2 : v &&& 15 = v % 16 := Nat.and_two_pow_sub_one_eq_mod v 4
  rw [h2] at h1
  exact h1

set_option maxRecDepth 1000000 in
set_option maxHeartbeats 3200000 in
theorem formatBits16 (u : Nat) (hu : u < 18446744073709551616) (w : World) (h : w.cell? ⟨12, 15, none⟩ = some (.int .u8 4)) :
    Calls Tryz.prog 108 #[.slice none 0 0, .int .u64 u, .int .i64 16, .bool false, .bool false] w fun e w' => e = .returned (.tuple #[.slice none 0 0, .string ⟨(hexV u).toArray⟩]) ∧ Below w.heap.size w w' := by
  have H := Lib.hid h
  clear h
  go_enter Tryz.func108, Tryz.ntmps108
  have h126 : (w.alloc (.cells Tryz.zeroCells143 143)).cell? ⟨12, 15, none⟩ = some (.int .u8 4) := by
    have hb : Below w.heap.size w (w.alloc (.cells Tryz.zeroCells143 143)) := (Below.refl _ _).alloc (Nat.le_refl _) _
    exact (hb.cell (p := ⟨12, 15, none⟩) (World.block_lt_of_cell? _ _ H.out)).trans H.out
  have H126 := Lib.hid h126
  clear h126
  go_wp2_with (first | (go_at_call 125; refine (isPow16 _).mono ?_; rintro e w' ⟨rfl, rfl⟩) | (go_at_call 126; refine (tz_16 _ H126.out).mono ?_; rintro e w' ⟨rfl, rfl⟩))
  obtain ⟨g, hg⟩ : ∃ g, w.heap.size = g := ⟨_, rfl⟩
  rw [hg]
  have HG := Lib.hid hg
  clear hg
  go_loopw [1, 13] (fun uu ii wr => ∃ (v i f : Nat) (S : List UInt8), uu = .int .u64 v ∧ ii = .int .i64 i ∧ 0 < f ∧ f + S.length = 16 ∧ i + S.length = 65 ∧ v < 16 ^ f ∧ hexV u = hexD f v ++ S ∧ Bits g i S wr ∧ Below g w wr) (fun uu _ _ => (intOf uu).toNat)
  case atStart =>
    refine ⟨u, 65, 16, [], rfl, rfl, by omega, rfl, rfl, by simpa using hu, by simp [hexV], ⟨Tryz.zeroCells143, ?_, by decide, by simp⟩, ?_⟩
    · rw [← HG.out]; exact heap_alloc_new _ _
    · rw [← HG.out]; exact (Below.refl _ _).alloc (Nat.le_refl _) _
  case round =>
    obtain ⟨v, i, f, S, rfl, rfl, hf, hfS, hiS, hv, hE, ⟨arr, ha, hsz, hS⟩, hb⟩ := hrel
    have HE := Lib.hid hE
    have HS := Lib.hid hS
    have HB := Lib.hid hb
    have HA := Lib.hid ha
    have hi0 : 49 ≤ i := by omega
    have hi65 : i ≤ 65 := by omega
    have hvv : v < 18446744073709551616 := Nat.lt_of_lt_of_le hv (by
      have : 16 ^ f ≤ 16 ^ 16 := Nat.pow_le_pow_right (by omega) (by omega)
      exact this)
    have hcell : wr.cell? ⟨g, i - 1, none⟩ = some arr[i - 1] := by
      simp only [World.cell?, ha]
      rw [Array.getElem?_eq_getElem (by omega)]; rfl
    have hfz : wr.frozen? ⟨g, i - 1, none⟩ = false := by simp [World.frozen?, ha]
    obtain ⟨c0, hc0⟩ : ∃ c0, arr[i - 1] = c0 := ⟨_, rfl⟩
    rw [hc0] at hcell
    have ei : (i : Int) - 1 = ((i - 1 : Nat) : Int) := by omega
    have i2 : ((i - 1 : Nat) : Int) < 65 := by omega
    clear hE hS hb ha hc0
    by_cases h16 : 16 ≤ v
    · obtain ⟨q, hq⟩ : ∃ q, v % 16 = q := ⟨_, rfl⟩
      have hand := and15 v hvv
      rw [hq] at hand
      have hq16 : q < 16 := by omega
      have hqi : (q : Int) < 36 := by omega
      have hq36 : q < 36 := by omega
      have HQ := Lib.hid hq
      clear hq
      go_wp2_with fail
      go_roundw
      case rel =>
        have HBits := Bits.set (g := g) (S := S) (X := wr) ⟨arr, HA.out, hsz, HS.out⟩ (by omega) hi65 (hexc q)
        refine ⟨v / 16, i - 1, f - 1, hexc q :: S, by norm_cast, rfl, ?_, by simp; omega, by simp; omega, ?_, ?_, ?_, ?_⟩
        · have : ¬ v < 16 := by omega
          rcases Nat.lt_or_ge 1 f with h | h
          · omega
          · have : f = 1 := by omega
            subst this
            omega
        · obtain ⟨f', rfl⟩ : ∃ f', f = f' + 1 := ⟨f - 1, by omega⟩
          rw [Nat.pow_succ] at hv
          rw [Nat.add_sub_cancel, Nat.div_lt_iff_lt_mul (by omega)]
          exact hv
        · obtain ⟨f', rfl⟩ : ∃ f', f = f' + 1 := ⟨f - 1, by omega⟩
          rw [HE.out, hexD, if_neg (by omega), HQ.out]
          simp
        · have e : wr.setCell ⟨g, i - 1, none⟩ (.int .u8 (hexc q).toNat) = wr.setCell ⟨g, i - 1, none⟩ (.int .u8 (dig36[q]'(by show q < 36; omega)).toNat) := by rw [dig_at q hq16]
          rw [e] at HBits
          exact HBits
        · exact HB.out.setCell (p := ⟨g, i - 1, none⟩) (Nat.le_refl _) _
      case measure => simp [intOf]; omega
    · have hq16 : v < 16 := by omega
      have hqi : (v : Int) < 36 := by omega
      have hq36 : v < 36 := by omega
      have hsl := slice65 g (i - 1) (by omega)
      have HBits := Bits.set (g := g) (S := S) (X := wr) ⟨arr, HA.out, hsz, HS.out⟩ (by omega) hi65 (hexc v)
      have e : wr.setCell ⟨g, i - 1, none⟩ (.int .u8 (hexc v).toNat) = wr.setCell ⟨g, i - 1, none⟩ (.int .u8 (dig36[v]'(by show v < 36; omega)).toNat) := by rw [dig_at v hq16]
      rw [e] at HBits
      have hcv := run_convert_bytes_back (P := Tryz.prog) (wr.setCell ⟨g, i - 1, none⟩ (.int .u8 (dig36[v]'(by show v < 36; omega)).toNat)) 77 9 5 ⟨g, i - 1, none⟩ (65 - (i - 1)) (hexc v :: S) Tryz.underlying77 Tryz.underlying5 Tryz.underlying9 (fun j hj => by
        rw [Addr.add_lit]
        exact HBits.cell j _ (List.getElem?_eq_getElem hj))
      rw [show (hexc v :: S).length = 65 - (i - 1) by simp; omega] at hcv
      have hV : hexV u = hexc v :: S := by
        obtain ⟨f', rfl⟩ : ∃ f', f = f' + 1 := ⟨f - 1, by omega⟩
        rw [HE.out, hexD, if_pos hq16]; rfl
      rw [← hV] at hcv
      have HV := Lib.hid hV
      unfold dig36 at hcv
      clear HBits e hV
      go_wp2_with fail
      go_ret2
      exact ⟨rfl, by rw [HG.out]; exact HB.out.setCell (p := ⟨g, i - 1, none⟩) (Nat.le_refl _) _⟩
end

section
open Go.RowKit
set_option linter.unusedVariables false
set_option linter.unusedSimpArgs false

set_option maxRecDepth 1000000 in
theorem uFormat16 (u : Nat) (hu : u < 18446744073709551616) (w : World) (h : w.cell? ⟨12, 15, none⟩ = some (.int .u8 4)) :
    Calls Tryz.prog 90 #[.int .u64 u, .int .i64 16] w fun e w' => e = .returned (.string ⟨(hexV u).toArray⟩) ∧ Below w.heap.size w w' := by
  have H := Lib.hid h
  clear h
  go_enter Tryz.func90, Tryz.ntmps90
  go_wp2_with (go_at_call 108; refine (formatBits16 u hu _ H.out).mono ?_; rintro e w' ⟨rfl, hb⟩)
  go_ret
  exact ⟨rfl, hb⟩
set_option maxRecDepth 1000000 in
theorem formatUint16 (u : Nat) (hu : u < 18446744073709551616) (w : World) (h : w.cell? ⟨12, 15, none⟩ = some (.int .u8 4)) :
    Calls Tryz.prog 65 #[.int .u64 u, .int .i64 16] w fun e w' => e = .returned (.string ⟨(hexV u).toArray⟩) ∧ Below w.heap.size w w' := by
  have H := Lib.hid h
  clear h
  go_enter Tryz.func65, Tryz.ntmps65
  go_wp2_with (go_at_call 90; refine (uFormat16 u hu _ H.out).mono ?_; rintro e w' ⟨rfl, hb⟩)
  go_ret
  exact ⟨rfl, hb⟩

/-- Is it a not-a-number? -/
def nanB (b : Nat) : Bool := FloatKind.f64.format.order b b != some .eq
theorem isNaN_any (b : Nat) (w : World) : Calls Tryz.prog 64 #[.float .f64 b] w fun e w' => e = .returned (.bool (nanB b)) ∧ w = w' := by
  go_enter Tryz.func64, Tryz.ntmps64
  go_wp2
  go_ret
  exact ⟨rfl, rfl⟩

theorem bits_run (b : Nat) (w : World) : (callFunc 17 #[.float .f64 b]).run Tryz.prog w = .ok (.value (.int .u64 b)) w := by
  rw [run_callFunc_extern Tryz.func17 (by kernel_rfl) (by kernel_rfl) (by kernel_rfl) (e := Extern.MathFloatBits.float64bits) (by kernel_rfl)]
  rfl
theorem frombits_run (n : Nat) (w : World) : (callFunc 22 #[.int .u64 n]).run Tryz.prog w = .ok (.value (.float .f64 n)) w := by
  rw [run_callFunc_extern Tryz.func22 (by kernel_rfl) (by kernel_rfl) (by kernel_rfl) (e := Extern.MathFloatBits.float64frombits) (by kernel_rfl)]
  rfl

theorem repeat_zero : ∀ c, Lib.repeatL [48] c = List.replicate c 48 := by
  intro c
  induction c with
  | zero => rfl
  | succ c ih => rw [Lib.repeatL, ih]; rfl

/-- The digits of sixteen places. -/
def wide (u : Nat) : ByteArray := ⟨(List.replicate (16 - (hexV u).length) 48 ++ hexV u).toArray⟩
theorem wide_is {u : Nat} {t : ByteArray} (ht : t = ⟨(hexV u).toArray⟩) : (⟨(Lib.repeatL [48] (16 - t.size)).toArray⟩ : ByteArray) ++ t = wide u := by
  have hs : t.size = (hexV u).length := by rw [ht]; rfl
  rw [repeat_zero, hs, ht]
  apply ByteArray.ext
  simp [wide]

theorem Below.at_ {w w' : World} (hb : Below w.heap.size w w') {b o : Nat} {v : Value} (h : w.cell? ⟨b, o, none⟩ = some v) : w'.cell? ⟨b, o, none⟩ = some v :=
  (hb.cell (p := ⟨b, o, none⟩) (World.block_lt_of_cell? _ _ h)).trans h

set_option maxRecDepth 1000000 in
set_option maxHeartbeats 1600000 in
theorem show_any (b : Nat) (hb : b < 18446744073709551616) (w : World) (h : w.cell? ⟨12, 15, none⟩ = some (.int .u8 4)) (hn : nanB b = false) :
    Calls Tryz.prog 21 #[.float .f64 b] w fun e w' => e = .returned (.string (wide b)) ∧ Below w.heap.size w w' := by
  have H := Lib.hid h
  have HN := Lib.hid (isNaN_any b w)
  rw [hn] at HN
  have hb17 := bits_run
  have HF := Lib.hid (formatUint16 b hb w h)
  have hlen : (⟨(hexV b).toArray⟩ : ByteArray).size ≤ 16 := hexD_len 16 b
  obtain ⟨t, ht⟩ : ∃ t : ByteArray, t = ⟨(hexV b).toArray⟩ := ⟨_, rfl⟩
  rw [← ht] at HF hlen
  have HT := Lib.hid ht
  have hcat : ¬ 9223372036854775807 < (Lib.repeatL [48] (16 - t.size)).length + t.size := by rw [repeat_zero]; simp; omega
  have e16 : (16 : Int) - (t.size : Int) = ((16 - t.size : Nat) : Int) := by omega
  clear h hn ht
  go_enter Tryz.func21, Tryz.ntmps21
  go_wp2_with (first | (go_at_call 64; refine HN.out.mono ?_; rintro e w' ⟨rfl, rfl⟩) | (go_at_call 65; go_loud (refine HF.out.mono ?_); rintro e w3 ⟨rfl, hb1⟩) | (go_at_call 66; go_loud (refine (Tryz.strings_Repeat ⟨#[48]⟩ (16 - t.size) _ (by omega) (by show 1 * (16 - t.size) ≤ 140737488355328; omega)).mono ?_); rintro e w2 ⟨rfl, hb2⟩))
  go_ret
  exact ⟨ret_str (wide_is HT.out), hb1.trans (hb2.mono hb1.size)⟩

set_option maxRecDepth 1000000 in
set_option maxHeartbeats 1600000 in
theorem show_nan (b : Nat) (w : World) (h : w.cell? ⟨12, 15, none⟩ = some (.int .u8 4)) (hn : nanB b = true) :
    Calls Tryz.prog 21 #[.float .f64 b] w fun e w' => e = .returned (.string (wide 9221120237041090561)) ∧ Below w.heap.size w w' := by
  have H := Lib.hid h
  have HN := Lib.hid (isNaN_any b w)
  rw [hn] at HN
  have hb17 := bits_run
  have HF := Lib.hid (formatUint16 9221120237041090561 (by decide) w h)
  have hlen : (⟨(hexV 9221120237041090561).toArray⟩ : ByteArray).size ≤ 16 := hexD_len 16 9221120237041090561
  obtain ⟨t, ht⟩ : ∃ t : ByteArray, t = ⟨(hexV 9221120237041090561).toArray⟩ := ⟨_, rfl⟩
  rw [← ht] at HF hlen
  have HT := Lib.hid ht
  have hcat : ¬ 9223372036854775807 < (Lib.repeatL [48] (16 - t.size)).length + t.size := by rw [repeat_zero]; simp; omega
  have e16 : (16 : Int) - (t.size : Int) = ((16 - t.size : Nat) : Int) := by omega
  clear h hn ht
  go_enter Tryz.func21, Tryz.ntmps21
  go_wp2_with (first | (go_at_call 64; refine HN.out.mono ?_; rintro e w' ⟨rfl, rfl⟩) | (go_at_call 65; go_loud (refine HF.out.mono ?_); rintro e w3 ⟨rfl, hb1⟩) | (go_at_call 66; go_loud (refine (Tryz.strings_Repeat ⟨#[48]⟩ (16 - t.size) _ (by omega) (by show 1 * (16 - t.size) ≤ 140737488355328; omega)).mono ?_); rintro e w2 ⟨rfl, hb2⟩))
  go_ret
  exact ⟨ret_str (wide_is HT.out), hb1.trans (hb2.mono hb1.size)⟩
end
end Go.Proofs.YtoonneminimbfaaGreatDoor
