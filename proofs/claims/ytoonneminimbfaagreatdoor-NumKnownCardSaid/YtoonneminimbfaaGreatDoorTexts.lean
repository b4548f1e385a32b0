/- The law NumTexts. -/
import Derived.Test.YtoonneminimbfaaGreatDoorRefText
namespace Go.Proofs.YtoonneminimbfaaGreatDoor
open Go.RowKit
set_option linter.unusedVariables false
set_option linter.unusedSimpArgs false

/-- A call made later: what was there at w is still there. -/
theorem later {f : FuncId} {args : Array Value} {w w' : World} {p : Ending → Prop} (hb : Below w.heap.size w w') (h : Calls Tryz.prog f args w' fun e w'' => p e ∧ Below w'.heap.size w' w'') :
    Calls Tryz.prog f args w' fun e w'' => p e ∧ Below w.heap.size w w'' :=
  h.mono fun e w'' ⟨he, hb'⟩ => ⟨he, hb.trans (hb'.mono hb.size)⟩

def canon (b : Nat) : Nat := if nanB b then 9221120237041090561 else b
theorem canon_lt (b : Nat) (hb : b < 18446744073709551616) : canon b < 18446744073709551616 := by unfold canon; split <;> omega
theorem show_all (b : Nat) (hb : b < 18446744073709551616) (w : World) (h : Glob w) :
    Calls Tryz.prog 21 #[.float .f64 b] w fun e w' => e = .returned (.string (wide (canon b))) ∧ Below w.heap.size w w' := by
  unfold canon
  cases hn : nanB b with
  | false => exact show_any b hb w h.trail hn
  | true => exact show_nan b w h.trail hn
theorem refShow_all (b : Nat) (hb : b < 18446744073709551616) (w : World) :
    Calls Tryz.prog 23 #[.int .u64 b] w fun e w' => e = .returned (.string (wide (canon b))) ∧ Below w.heap.size w w' := by
  unfold canon
  have hn := nanB_is b
  by_cases h : b % 9223372036854775808 > 9218868437227405312
  · rw [hn, decide_eq_true h]; exact refShow_nan _ b (by rw [if_pos rfl]; decide) hb w (if_pos rfl) h
  · rw [hn, decide_eq_false h]; exact refShow_num b hb w h

set_option maxRecDepth 1000000 in
set_option maxHeartbeats 3200000 in
theorem lawTexts (a : Int) (b : Nat) (w : World) (ha0 : -9223372036854775808 ≤ a) (ha1 : a ≤ 9223372036854775807) (hb : b < 18446744073709551616) (h : Glob w) :
    Calls Tryz.prog 4 #[.int .i64 a, .int .u64 b] w fun e w' => e = .returned (.bool true) ∧ Below w.heap.size w w' := by
  have HT := Lib.hid (text_any a ha0 ha1 w h)
  have HR := Lib.hid (fun w' hb => later (w := w) hb (refText_any a ha0 ha1 w'))
  have HS := Lib.hid (fun w' hb' => later (w := w) hb' (show_all b hb w' (h.below hb')))
  have HQ := Lib.hid (fun w' hb' => later (w := w) hb' (refShow_all b hb w'))
  have HW := Lib.hid (fun w' hb' => glob_awake w w' h hb')
  have hf := frombits_run b
  generalize wide (canon b) = s at *
  generalize (Lib.itoa a).toArray = t at *
  clear h
  go_enter Tryz.func4, Tryz.ntmps4
  go_wp2_with (first | (go_at_call 19; refine HT.out.mono ?_; rintro e w1 ⟨rfl, hb1⟩) | (go_at_call 20; refine (HR.out _ hb1).mono ?_; rintro e w2 ⟨rfl, hb2⟩) | (go_at_call 21; refine (HS.out _ hb2).mono ?_; rintro e w3 ⟨rfl, hb3⟩) | (go_at_call 23; refine (HQ.out _ hb3).mono ?_; rintro e w4 ⟨rfl, hb4⟩) | (go_at_call 18; refine (HW.out _ hb4).mono ?_; rintro e w5 ⟨rfl, hb5⟩))
  go_ret
  exact ⟨rfl, hb5⟩
end Go.Proofs.YtoonneminimbfaaGreatDoor
