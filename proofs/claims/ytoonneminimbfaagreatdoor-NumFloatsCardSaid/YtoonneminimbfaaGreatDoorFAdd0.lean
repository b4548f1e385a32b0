/- emendref01.FAdd, case by case. -/
import Derived.Test.YtoonneminimbfaaGreatDoorParts
namespace Go.Proofs.YtoonneminimbfaaGreatDoor
open Go.RowKit
set_option linter.unusedVariables false
set_option linter.unusedSimpArgs false

set_option maxRecDepth 100000 in
theorem fadd_n1 (a b : Nat) (w : World) (hNa : NN a true) :
    Calls Tryz.prog 38 #[.int .u64 a, .int .u64 b] w fun e w' => e = .returned (.int .u64 9221120237041090561) ∧ Below w.heap.size w w' := by
  go_enter Tryz.func38, Tryz.ntmps38
  go_wp2_with (first | (go_at_call 67; refine Calls.mono (nn_at _ _ _ (by assumption)) ?_; rintro e wx ⟨rfl, rfl⟩) | (go_at_call 69; refine Calls.mono (ii_at _ _ _ (by assumption)) ?_; rintro e wx ⟨rfl, rfl⟩) | (go_at_call 73; refine Calls.mono (zz_at _ _ _ (by assumption)) ?_; rintro e wx ⟨rfl, rfl⟩) | (go_at_call 70; refine Calls.mono (gg_at _ _ _ (by assumption)) ?_; rintro e wx ⟨rfl, rfl⟩) | (go_at_call 68; refine Calls.mono (spl_at _ _ _ _ (by assumption)) ?_; rintro e wx ⟨rfl, rfl⟩))
  go_ret
  exact ⟨rfl, Below.refl _ _⟩
set_option maxRecDepth 100000 in
theorem fadd_n2 (a b : Nat) (w : World) (hNa : NN a false) (hNb : NN b true) :
    Calls Tryz.prog 38 #[.int .u64 a, .int .u64 b] w fun e w' => e = .returned (.int .u64 9221120237041090561) ∧ Below w.heap.size w w' := by
  go_enter Tryz.func38, Tryz.ntmps38
  go_wp2_with (first | (go_at_call 67; refine Calls.mono (nn_at _ _ _ (by assumption)) ?_; rintro e wx ⟨rfl, rfl⟩) | (go_at_call 69; refine Calls.mono (ii_at _ _ _ (by assumption)) ?_; rintro e wx ⟨rfl, rfl⟩) | (go_at_call 73; refine Calls.mono (zz_at _ _ _ (by assumption)) ?_; rintro e wx ⟨rfl, rfl⟩) | (go_at_call 70; refine Calls.mono (gg_at _ _ _ (by assumption)) ?_; rintro e wx ⟨rfl, rfl⟩) | (go_at_call 68; refine Calls.mono (spl_at _ _ _ _ (by assumption)) ?_; rintro e wx ⟨rfl, rfl⟩))
  go_ret
  exact ⟨rfl, Below.refl _ _⟩
set_option maxRecDepth 100000 in
theorem fadd_n3f (a b : Nat) (w : World) (hNa : NN a false) (hNb : NN b false) (hIa : II a true) (hIb : II b true) (hGa : GG a false) (hGb : GG b true) :
    Calls Tryz.prog 38 #[.int .u64 a, .int .u64 b] w fun e w' => e = .returned (.int .u64 9221120237041090561) ∧ Below w.heap.size w w' := by
  go_enter Tryz.func38, Tryz.ntmps38
  go_wp2_with (first | (go_at_call 67; refine Calls.mono (nn_at _ _ _ (by assumption)) ?_; rintro e wx ⟨rfl, rfl⟩) | (go_at_call 69; refine Calls.mono (ii_at _ _ _ (by assumption)) ?_; rintro e wx ⟨rfl, rfl⟩) | (go_at_call 73; refine Calls.mono (zz_at _ _ _ (by assumption)) ?_; rintro e wx ⟨rfl, rfl⟩) | (go_at_call 70; refine Calls.mono (gg_at _ _ _ (by assumption)) ?_; rintro e wx ⟨rfl, rfl⟩) | (go_at_call 68; refine Calls.mono (spl_at _ _ _ _ (by assumption)) ?_; rintro e wx ⟨rfl, rfl⟩))
  go_ret
  exact ⟨rfl, Below.refl _ _⟩
set_option maxRecDepth 100000 in
theorem fadd_a1f (a b : Nat) (w : World) (hNa : NN a false) (hNb : NN b false) (hIa : II a true) (hIb : II b true) (hGa : GG a false) (hGb : GG b false) :
    Calls Tryz.prog 38 #[.int .u64 a, .int .u64 b] w fun e w' => e = .returned (.int .u64 a) ∧ Below w.heap.size w w' := by
  go_enter Tryz.func38, Tryz.ntmps38
  go_wp2_with (first | (go_at_call 67; refine Calls.mono (nn_at _ _ _ (by assumption)) ?_; rintro e wx ⟨rfl, rfl⟩) | (go_at_call 69; refine Calls.mono (ii_at _ _ _ (by assumption)) ?_; rintro e wx ⟨rfl, rfl⟩) | (go_at_call 73; refine Calls.mono (zz_at _ _ _ (by assumption)) ?_; rintro e wx ⟨rfl, rfl⟩) | (go_at_call 70; refine Calls.mono (gg_at _ _ _ (by assumption)) ?_; rintro e wx ⟨rfl, rfl⟩) | (go_at_call 68; refine Calls.mono (spl_at _ _ _ _ (by assumption)) ?_; rintro e wx ⟨rfl, rfl⟩))
  go_ret
  exact ⟨rfl, Below.refl _ _⟩
set_option maxRecDepth 100000 in
theorem fadd_n3t (a b : Nat) (w : World) (hNa : NN a false) (hNb : NN b false) (hIa : II a true) (hIb : II b true) (hGa : GG a true) (hGb : GG b false) :
    Calls Tryz.prog 38 #[.int .u64 a, .int .u64 b] w fun e w' => e = .returned (.int .u64 9221120237041090561) ∧ Below w.heap.size w w' := by
  go_enter Tryz.func38, Tryz.ntmps38
  go_wp2_with (first | (go_at_call 67; refine Calls.mono (nn_at _ _ _ (by assumption)) ?_; rintro e wx ⟨rfl, rfl⟩) | (go_at_call 69; refine Calls.mono (ii_at _ _ _ (by assumption)) ?_; rintro e wx ⟨rfl, rfl⟩) | (go_at_call 73; refine Calls.mono (zz_at _ _ _ (by assumption)) ?_; rintro e wx ⟨rfl, rfl⟩) | (go_at_call 70; refine Calls.mono (gg_at _ _ _ (by assumption)) ?_; rintro e wx ⟨rfl, rfl⟩) | (go_at_call 68; refine Calls.mono (spl_at _ _ _ _ (by assumption)) ?_; rintro e wx ⟨rfl, rfl⟩))
  go_ret
  exact ⟨rfl, Below.refl _ _⟩
set_option maxRecDepth 100000 in
theorem fadd_a1t (a b : Nat) (w : World) (hNa : NN a false) (hNb : NN b false) (hIa : II a true) (hIb : II b true) (hGa : GG a true) (hGb : GG b true) :
    Calls Tryz.prog 38 #[.int .u64 a, .int .u64 b] w fun e w' => e = .returned (.int .u64 a) ∧ Below w.heap.size w w' := by
  go_enter Tryz.func38, Tryz.ntmps38
  go_wp2_with (first | (go_at_call 67; refine Calls.mono (nn_at _ _ _ (by assumption)) ?_; rintro e wx ⟨rfl, rfl⟩) | (go_at_call 69; refine Calls.mono (ii_at _ _ _ (by assumption)) ?_; rintro e wx ⟨rfl, rfl⟩) | (go_at_call 73; refine Calls.mono (zz_at _ _ _ (by assumption)) ?_; rintro e wx ⟨rfl, rfl⟩) | (go_at_call 70; refine Calls.mono (gg_at _ _ _ (by assumption)) ?_; rintro e wx ⟨rfl, rfl⟩) | (go_at_call 68; refine Calls.mono (spl_at _ _ _ _ (by assumption)) ?_; rintro e wx ⟨rfl, rfl⟩))
  go_ret
  exact ⟨rfl, Below.refl _ _⟩
set_option maxRecDepth 100000 in
theorem fadd_a2 (a b : Nat) (w : World) (hNa : NN a false) (hNb : NN b false) (hIa : II a true) (hIb : II b false) :
    Calls Tryz.prog 38 #[.int .u64 a, .int .u64 b] w fun e w' => e = .returned (.int .u64 a) ∧ Below w.heap.size w w' := by
  go_enter Tryz.func38, Tryz.ntmps38
  go_wp2_with (first | (go_at_call 67; refine Calls.mono (nn_at _ _ _ (by assumption)) ?_; rintro e wx ⟨rfl, rfl⟩) | (go_at_call 69; refine Calls.mono (ii_at _ _ _ (by assumption)) ?_; rintro e wx ⟨rfl, rfl⟩) | (go_at_call 73; refine Calls.mono (zz_at _ _ _ (by assumption)) ?_; rintro e wx ⟨rfl, rfl⟩) | (go_at_call 70; refine Calls.mono (gg_at _ _ _ (by assumption)) ?_; rintro e wx ⟨rfl, rfl⟩) | (go_at_call 68; refine Calls.mono (spl_at _ _ _ _ (by assumption)) ?_; rintro e wx ⟨rfl, rfl⟩))
  go_ret
  exact ⟨rfl, Below.refl _ _⟩
set_option maxRecDepth 100000 in
theorem fadd_a3 (a b : Nat) (w : World) (hNa : NN a false) (hNb : NN b false) (hIa : II a false) (hZb : ZZ b true) (hZa : ZZ a false) :
    Calls Tryz.prog 38 #[.int .u64 a, .int .u64 b] w fun e w' => e = .returned (.int .u64 a) ∧ Below w.heap.size w w' := by
  go_enter Tryz.func38, Tryz.ntmps38
  go_wp2_with (first | (go_at_call 67; refine Calls.mono (nn_at _ _ _ (by assumption)) ?_; rintro e wx ⟨rfl, rfl⟩) | (go_at_call 69; refine Calls.mono (ii_at _ _ _ (by assumption)) ?_; rintro e wx ⟨rfl, rfl⟩) | (go_at_call 73; refine Calls.mono (zz_at _ _ _ (by assumption)) ?_; rintro e wx ⟨rfl, rfl⟩) | (go_at_call 70; refine Calls.mono (gg_at _ _ _ (by assumption)) ?_; rintro e wx ⟨rfl, rfl⟩) | (go_at_call 68; refine Calls.mono (spl_at _ _ _ _ (by assumption)) ?_; rintro e wx ⟨rfl, rfl⟩))
  go_ret
  exact ⟨rfl, Below.refl _ _⟩
set_option maxRecDepth 100000 in
theorem fadd_b1 (a b : Nat) (w : World) (hNa : NN a false) (hNb : NN b false) (hIa : II a false) (hZb : ZZ b false) (hIb : II b true) :
    Calls Tryz.prog 38 #[.int .u64 a, .int .u64 b] w fun e w' => e = .returned (.int .u64 b) ∧ Below w.heap.size w w' := by
  go_enter Tryz.func38, Tryz.ntmps38
  go_wp2_with (first | (go_at_call 67; refine Calls.mono (nn_at _ _ _ (by assumption)) ?_; rintro e wx ⟨rfl, rfl⟩) | (go_at_call 69; refine Calls.mono (ii_at _ _ _ (by assumption)) ?_; rintro e wx ⟨rfl, rfl⟩) | (go_at_call 73; refine Calls.mono (zz_at _ _ _ (by assumption)) ?_; rintro e wx ⟨rfl, rfl⟩) | (go_at_call 70; refine Calls.mono (gg_at _ _ _ (by assumption)) ?_; rintro e wx ⟨rfl, rfl⟩) | (go_at_call 68; refine Calls.mono (spl_at _ _ _ _ (by assumption)) ?_; rintro e wx ⟨rfl, rfl⟩))
  go_ret
  exact ⟨rfl, Below.refl _ _⟩
set_option maxRecDepth 100000 in
theorem fadd_b2 (a b : Nat) (w : World) (hNa : NN a false) (hNb : NN b false) (hIa : II a false) (hZb : ZZ b false) (hIb : II b false) (hZa : ZZ a true) :
    Calls Tryz.prog 38 #[.int .u64 a, .int .u64 b] w fun e w' => e = .returned (.int .u64 b) ∧ Below w.heap.size w w' := by
  go_enter Tryz.func38, Tryz.ntmps38
  go_wp2_with (first | (go_at_call 67; refine Calls.mono (nn_at _ _ _ (by assumption)) ?_; rintro e wx ⟨rfl, rfl⟩) | (go_at_call 69; refine Calls.mono (ii_at _ _ _ (by assumption)) ?_; rintro e wx ⟨rfl, rfl⟩) | (go_at_call 73; refine Calls.mono (zz_at _ _ _ (by assumption)) ?_; rintro e wx ⟨rfl, rfl⟩) | (go_at_call 70; refine Calls.mono (gg_at _ _ _ (by assumption)) ?_; rintro e wx ⟨rfl, rfl⟩) | (go_at_call 68; refine Calls.mono (spl_at _ _ _ _ (by assumption)) ?_; rintro e wx ⟨rfl, rfl⟩))
  go_ret
  exact ⟨rfl, Below.refl _ _⟩
set_option maxRecDepth 100000 in
theorem fadd_zff (a b : Nat) (w : World) (hNa : NN a false) (hNb : NN b false) (hIa : II a false) (hZb : ZZ b true) (hZa : ZZ a true) (hIb : II b false) (hGa : GG a false) (hGb : GG b false) :
    Calls Tryz.prog 38 #[.int .u64 a, .int .u64 b] w fun e w' => e = .returned (.int .u64 (Ieee.double.word false 0 : Nat)) ∧ Below w.heap.size w w' := by
  go_enter Tryz.func38, Tryz.ntmps38
  go_wp2_with (first | (go_at_call 67; refine Calls.mono (nn_at _ _ _ (by assumption)) ?_; rintro e wx ⟨rfl, rfl⟩) | (go_at_call 69; refine Calls.mono (ii_at _ _ _ (by assumption)) ?_; rintro e wx ⟨rfl, rfl⟩) | (go_at_call 73; refine Calls.mono (zz_at _ _ _ (by assumption)) ?_; rintro e wx ⟨rfl, rfl⟩) | (go_at_call 70; refine Calls.mono (gg_at _ _ _ (by assumption)) ?_; rintro e wx ⟨rfl, rfl⟩) | (go_at_call 68; refine Calls.mono (spl_at _ _ _ _ (by assumption)) ?_; rintro e wx ⟨rfl, rfl⟩) | (go_at_call 74; refine Calls.mono (signed_zero _ _) ?_; rintro e wx ⟨rfl, rfl⟩))
  go_ret
  exact ⟨rfl, Below.refl _ _⟩
set_option maxRecDepth 100000 in
theorem fadd_zft (a b : Nat) (w : World) (hNa : NN a false) (hNb : NN b false) (hIa : II a false) (hZb : ZZ b true) (hZa : ZZ a true) (hIb : II b false) (hGa : GG a false) (hGb : GG b true) :
    Calls Tryz.prog 38 #[.int .u64 a, .int .u64 b] w fun e w' => e = .returned (.int .u64 (Ieee.double.word false 0 : Nat)) ∧ Below w.heap.size w w' := by
  go_enter Tryz.func38, Tryz.ntmps38
  go_wp2_with (first | (go_at_call 67; refine Calls.mono (nn_at _ _ _ (by assumption)) ?_; rintro e wx ⟨rfl, rfl⟩) | (go_at_call 69; refine Calls.mono (ii_at _ _ _ (by assumption)) ?_; rintro e wx ⟨rfl, rfl⟩) | (go_at_call 73; refine Calls.mono (zz_at _ _ _ (by assumption)) ?_; rintro e wx ⟨rfl, rfl⟩) | (go_at_call 70; refine Calls.mono (gg_at _ _ _ (by assumption)) ?_; rintro e wx ⟨rfl, rfl⟩) | (go_at_call 68; refine Calls.mono (spl_at _ _ _ _ (by assumption)) ?_; rintro e wx ⟨rfl, rfl⟩) | (go_at_call 74; refine Calls.mono (signed_zero _ _) ?_; rintro e wx ⟨rfl, rfl⟩))
  go_ret
  exact ⟨rfl, Below.refl _ _⟩
set_option maxRecDepth 100000 in
theorem fadd_ztf (a b : Nat) (w : World) (hNa : NN a false) (hNb : NN b false) (hIa : II a false) (hZb : ZZ b true) (hZa : ZZ a true) (hIb : II b false) (hGa : GG a true) (hGb : GG b false) :
    Calls Tryz.prog 38 #[.int .u64 a, .int .u64 b] w fun e w' => e = .returned (.int .u64 (Ieee.double.word false 0 : Nat)) ∧ Below w.heap.size w w' := by
  go_enter Tryz.func38, Tryz.ntmps38
  go_wp2_with (first | (go_at_call 67; refine Calls.mono (nn_at _ _ _ (by assumption)) ?_; rintro e wx ⟨rfl, rfl⟩) | (go_at_call 69; refine Calls.mono (ii_at _ _ _ (by assumption)) ?_; rintro e wx ⟨rfl, rfl⟩) | (go_at_call 73; refine Calls.mono (zz_at _ _ _ (by assumption)) ?_; rintro e wx ⟨rfl, rfl⟩) | (go_at_call 70; refine Calls.mono (gg_at _ _ _ (by assumption)) ?_; rintro e wx ⟨rfl, rfl⟩) | (go_at_call 68; refine Calls.mono (spl_at _ _ _ _ (by assumption)) ?_; rintro e wx ⟨rfl, rfl⟩) | (go_at_call 74; refine Calls.mono (signed_zero _ _) ?_; rintro e wx ⟨rfl, rfl⟩))
  go_ret
  exact ⟨rfl, Below.refl _ _⟩
set_option maxRecDepth 100000 in
theorem fadd_ztt (a b : Nat) (w : World) (hNa : NN a false) (hNb : NN b false) (hIa : II a false) (hZb : ZZ b true) (hZa : ZZ a true) (hIb : II b false) (hGa : GG a true) (hGb : GG b true) :
    Calls Tryz.prog 38 #[.int .u64 a, .int .u64 b] w fun e w' => e = .returned (.int .u64 (Ieee.double.word true 0 : Nat)) ∧ Below w.heap.size w w' := by
  go_enter Tryz.func38, Tryz.ntmps38
  go_wp2_with (first | (go_at_call 67; refine Calls.mono (nn_at _ _ _ (by assumption)) ?_; rintro e wx ⟨rfl, rfl⟩) | (go_at_call 69; refine Calls.mono (ii_at _ _ _ (by assumption)) ?_; rintro e wx ⟨rfl, rfl⟩) | (go_at_call 73; refine Calls.mono (zz_at _ _ _ (by assumption)) ?_; rintro e wx ⟨rfl, rfl⟩) | (go_at_call 70; refine Calls.mono (gg_at _ _ _ (by assumption)) ?_; rintro e wx ⟨rfl, rfl⟩) | (go_at_call 68; refine Calls.mono (spl_at _ _ _ _ (by assumption)) ?_; rintro e wx ⟨rfl, rfl⟩) | (go_at_call 74; refine Calls.mono (signed_zero _ _) ?_; rintro e wx ⟨rfl, rfl⟩))
  go_ret
  exact ⟨rfl, Below.refl _ _⟩
end Go.Proofs.YtoonneminimbfaaGreatDoor
