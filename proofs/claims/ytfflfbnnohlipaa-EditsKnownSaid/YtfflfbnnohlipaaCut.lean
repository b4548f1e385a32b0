/- emendlaw07.cut. -/
import Derived.Test.YtfflfbnnohlipaaBase
namespace Go.Proofs.Ytfflfbnnohlipaa
open Go.RowKit
set_option linter.unusedVariables false

def cutV (s : ByteArray) : ByteArray := s.extract 0 (if (1500 : Int) < (s.size : Int) then (1500 : Int) else (s.size : Int)).toNat
theorem cutV_size (s : ByteArray) : (cutV s).size ≤ 1500 := by
  simp only [cutV, ByteArray.size_extract]
  split <;> omega

theorem cut_any (s : ByteArray) (w : World) (hs : s.size ≤ 9223372036854775807) : Calls Try.prog 15 #[.string s] w fun e w' => e = .returned (.string (cutV s)) ∧ w = w' := by
  by_cases h : (1500 : Int) < (s.size : Int)
  · have hc : cutV s = s.extract 0 1500 := by unfold cutV; rw [if_pos h]; rfl
    have HC := Lib.hid hc
    clear hc
    go_enter Try.func15, Try.ntmps15
    go_wp2
    go_ret
    exact ⟨by rw [HC.out]; rfl, rfl⟩
  · have hc : cutV s = s := by unfold cutV; rw [if_neg h]; simp
    have HC := Lib.hid hc
    clear hc
    go_enter Try.func15, Try.ntmps15
    go_wp2
    go_ret
    exact ⟨by rw [HC.out]; rfl, rfl⟩
end Go.Proofs.Ytfflfbnnohlipaa
