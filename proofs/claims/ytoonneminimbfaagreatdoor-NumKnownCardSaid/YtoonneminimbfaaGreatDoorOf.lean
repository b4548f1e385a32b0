/- emendref01: whole numbers as rows of digits to the base 65536: Of, trim. -/
import Derived.Test.YtoonneminimbfaaGreatDoorMem
import Derived.Test.YtoonneminimbfaaGreatDoorTexts
namespace Go.Proofs.YtoonneminimbfaaGreatDoor
open Go.RowKit
set_option linter.unusedVariables false
set_option linter.unusedSimpArgs false

def uc (x : Nat) : List Value := [.int .u64 x]
theorem uc_len (x : Nat) : (uc x).length = 1 := rfl
theorem uc_one (x : Nat) : ∀ u ∈ uc x, u.oneCell' = true := by intro u hu; simp [uc] at hu; subst hu; rfl
theorem info30 : (Tryz.prog.info? 30).map (fun i => (i.zero, i.size, i.bytes)) = some (some (.int .u64 0), 1, 8) := by kernel_rfl
theorem info_split {i : Option TypeInfo} {z : Value} {s b : Nat} (h : i.map (fun i => (i.zero, i.size, i.bytes)) = some (some z, s, b)) : ∃ j, i = some j ∧ j.zero = some z ∧ j.size = s ∧ j.bytes = b := by
  cases i with
  | none => cases h
  | some j => simp at h; exact ⟨j, rfl, h.1, h.2.1, h.2.2⟩

/-- The digits, the least first; none of 0. -/
def dg16 (n : Nat) : List Nat := if n = 0 then [] else n % 65536 :: dg16 (n / 65536)
termination_by n
theorem dg16_zero : dg16 0 = [] := by rw [dg16]; rfl
theorem dg16_pos {n : Nat} (h : n ≠ 0) : dg16 n = n % 65536 :: dg16 (n / 65536) := by rw [dg16, if_neg h]
theorem dg16_len : ∀ (k n : Nat), n < 65536 ^ k → (dg16 n).length ≤ k := by
  intro k
  induction k with
  | zero => intro n h; have : n = 0 := by simpa using h
            subst this; rw [dg16_zero]; simp
  | succ k ih =>
    intro n h
    by_cases h0 : n = 0
    · subst h0; rw [dg16_zero]; simp
    · rw [dg16_pos h0]
      have := ih (n / 65536) (by rw [Nat.div_lt_iff_lt_mul (by omega)]; rw [Nat.pow_succ] at h; exact h)
      simp; exact this

set_option maxRecDepth 100000 in
set_option maxHeartbeats 1600000 in
theorem of_any (n : Nat) (hn : n < 18446744073709551616) (w : World) :
    Calls Tryz.prog 59 #[.int .u64 n] w fun e w' => (∃ v, e = .returned v ∧ Own uc 1 30 w' w.heap.size v (dg16 n)) ∧ Below w.heap.size w w' := by
  obtain ⟨i30, hi30, hz0, hz1, hz2⟩ := info_split info30
  have HN4 := Lib.hid (dg16_len 4 n (by simpa using hn))
  go_enter Tryz.func59, Tryz.ntmps59
  go_wp2_with fail
  go_loopw [0, 3] (fun x v wr => ∃ (m : Nat) (l : List Nat), m ≤ n ∧ x = .int .u64 m ∧ Own uc 1 30 wr w.heap.size v l ∧ dg16 n = l ++ dg16 m ∧ Below w.heap.size w wr) (fun x _ _ => (intOf x).toNat)
  case atStart => exact ⟨n, [], Nat.le_refl _, rfl, Own.nil_, rfl, Below.refl _ _⟩
  case round =>
    obtain ⟨m, l, hm, rfl, hown, hl, hb⟩ := hrel
    have HO := Lib.hid hown
    have HB := Lib.hid hb
    have hbs := hb.size
    have HL := Lib.hid hl
    by_cases h0 : m = 0
    · subst h0
      have HE := Lib.hid (show dg16 n = l by rw [HL.out, dg16_zero, List.append_nil])
      clear hown hl hb
      go_wp2
      go_ret
      exact ⟨⟨_, rfl, by rw [HE.out]; exact HO.out⟩, HB.out⟩
    · have HP := Lib.hid (dg16_pos h0)
      have hlen : l.length ≤ 4 := by
        have := HN4.out
        rw [HL.out, List.length_append] at this; omega
      have HLN := Lib.hid hlen
      have hpos : (m : Int) > 0 := by omega
      clear hown hl hb hlen
      go_wp2_with (at_builtin; go_must (refine wpList_append_one (cs := uc) rfl _ _ 71 rfl 30 i30 _ 8 Tryz.underlying71 hi30 hz0 hz1 hz2 rfl (by decide) uc_len uc_one _ w.heap.size _ u3 l (m % 65536) _ (by simp [uc]) (by rfl) (by rfl) (by rfl) HO.out (by unfold maxLen; have := HLN.out; omega) (by have := HLN.out; omega) hbs ?_); intro v' w' hown' hg hat)
      go_roundw
      case rel =>
        refine ⟨m / 65536, l ++ [m % 65536], by omega, by go_num, hown', by rw [HL.out, HP.out, List.append_assoc]; rfl, below_grown HB.out HO.out hbs hg⟩
      case measure => simp [intOf]; omega
end Go.Proofs.YtoonneminimbfaaGreatDoor
