/- For every number and every list of keys emendlaw27.MemoGets returns true: one after the other, Get of any keys answers what is kept, or what is made. No condition. -/
import Derived.Test.YtjghbcligjiaaaaRE
import Derived.Test.YtjghbcligjiaaaaRead
namespace Go.Proofs.Ytjghbcligjiaaaa
open Go.ChangeShapes Go.WideShapes Go.ChangeAt Go.RowKit
open Go.ChangeMaps (open_string)
set_option linter.unusedVariables false
set_option linter.unusedSimpArgs false

theorem rowMemoGets (W : World) (n : Int) (wn : (Lit.int .i64 n).wf = true) (A0 : Option Addr) (c0 : Nat) (l : List ByteArray) (hl : l.length ≤ 9223372036854775807) (hr : RowOf strCells 1 W W.heap.size A0 l) (hg : ∀ a ∈ l, a.size ≤ maxLen) :
    Calls Try.prog 6 #[.int .i64 n, .slice A0 l.length c0] W fun e w' => e = .returned (.bool true) ∧ Below W.heap.size W w' := by
  by_cases h : n < 1 ∨ 64 < n
  · exact gets_none W n _ h
  · obtain ⟨m, rfl⟩ : ∃ m : Nat, n = m := ⟨n.toNat, by omega⟩
    exact lawGets W m (by omega) (by omega) A0 c0 l hl hr hg

set_option maxRecDepth 100000 in
theorem memoGets_lifted (os : Os) (started : os.Started) (H : Type) (enc : TypeId × Value → H) :
    ReturnsInHanded {} Try.checked os 6 .any (Rows.memoGetsSpec.pre6 enc Try.prog Try.f6 Rows.memoGetsRow.domain false) (Rows.memoGetsSpec.post enc Try.prog Try.f6 false true false false) := by
  refine returnsInHanded_of_change (C := Try.checked) Try.own started (by kernel_rfl) Try.func6
    (ChangeSpec.witness6 (enc := enc) (C := Try.checked) false ⟨#[], #[.int .i64 0, .slice none 0 0], []⟩ 8 (by kernel_rfl) (by kernel_rfl) (by kernel_rfl) (by kernel_rfl)) ?_
  intro W base args ds gs before hval hW _ _
  obtain ⟨p, q, hA, hV, _, _, _⟩ := id hW
  rw [show Try.f6.params.toList = [3, 30] from rfl] at hA
  obtain ⟨v0, vs0, d0, ds0, p0, q0, hargs, hds, _, h0, r0⟩ := trodAll_cons hA
  obtain ⟨v1, vs1, d1, ds1, p1, q1, rfl, rfl, _, h1, r1⟩ := trodAll_cons r0
  obtain ⟨rfl, rfl, _⟩ := trodAll_nil r1
  obtain rfl : args = #[v0, v1] := by cases args; simp_all
  obtain ⟨rfl, _⟩ := trodVars_none hV
  subst hds
  obtain ⟨n0, rfl, _, _, wn0⟩ := open_int Try.underlying3 (hval 0 3 v0 rfl rfl) h0
  obtain ⟨a1, len1, cap1, rfl⟩ := okWide_slice Try.underlying30 (hval 1 30 v1 rfl rfl)
  obtain ⟨l1, rfl, hrow1, hfit1, hmax1⟩ := read_slice (cells := strCells) Try.underlying30 c9 (by omega) str_elem rfl h1
  exact law_post (bt := 4) Try.laidOut (by kernel_rfl) rfl Try.underlying4 rfl rfl hW (rowMemoGets W n0 wn0 a1 cap1 l1 (below_max hmax1) hrow1 hfit1)

theorem memoGets_holds : Rows.MemoGetsSaid :=
  OpenClaim.holds_of_wide 6 Try.f6 rfl rfl rfl rfl rfl rfl rfl ⟨rfl, rfl, rfl, rfl, rfl⟩ rfl rfl rfl rfl rfl (by kernel_rfl) Try.func6 (by kernel_rfl)
    (of_decide_eq_true (by kernel_rfl)) (by unfold Func.isWrapper; first | (rw [if_pos (by decide +kernel)]; kernel_rfl) | (rw [if_neg (by decide +kernel)]; exact ⟨rfl, rfl⟩))
    (fun os started H enc _ => memoGets_lifted os started H enc)
end Go.Proofs.Ytjghbcligjiaaaa
