/- For every room and every list of keys emendlaw27.MemoWakes returns true: if all that makes gives, all that waits is woken, each once. No condition. -/
import Derived.Test.YtjghbcligjiaaaaLawWakes
import Derived.Test.YtjghbcligjiaaaaRead
namespace Go.Proofs.Ytjghbcligjiaaaa
open Go.ChangeShapes Go.WideShapes Go.ChangeAt Go.RowKit
open Go.ChangeMaps (open_string)
set_option linter.unusedVariables false
set_option linter.unusedSimpArgs false

theorem u8_nat {n : Int} (h : (Lit.int .u8 n).wf = true) : ∃ k : Nat, n = k ∧ k ≤ 255 := by
  have h1 : IntKind.u8.min ≤ n ∧ n ≤ IntKind.u8.max := by simpa [Lit.wf] using h
  have h0 : IntKind.u8.min = 0 := by rfl
  have h2 : IntKind.u8.max = 255 := by rfl
  exact ⟨n.toNat, by omega, by omega⟩
theorem u8_list : ∀ (l : List Int), (∀ a ∈ l, (Lit.int .u8 a).wf = true) → ∃ m : List Nat, l = m.map (fun (k : Nat) => (k : Int)) ∧ ∀ k ∈ m, k ≤ 255
  | [], _ => ⟨[], rfl, fun k hk => by cases hk⟩
  | a :: l, h => by
    obtain ⟨k, rfl, hk⟩ := u8_nat (h a (List.mem_cons_self ..))
    obtain ⟨m, rfl, hm⟩ := u8_list l (fun b hb => h b (List.mem_cons_of_mem _ hb))
    exact ⟨k :: m, rfl, fun j hj => by
      rcases List.mem_cons.1 hj with rfl | hj
      · exact hk
      · exact hm j hj⟩
theorem rowMemoWakes (W : World) (n : Int) (wn : (Lit.int .u8 n).wf = true) (A0 : Option Addr) (c0 : Nat) (l : List Int) (hl : l.length ≤ 9223372036854775807) (hr : RowOf u8Cells 1 W W.heap.size A0 l) (hg : ∀ a ∈ l, (Lit.int .u8 a).wf = true) :
    Calls Try.prog 3 #[.int .u8 n, .slice A0 l.length c0] W fun e w' => e = .returned (.bool true) ∧ Below W.heap.size W w' := by
  obtain ⟨k, rfl, hk⟩ := u8_nat wn
  obtain ⟨m, rfl, hm⟩ := u8_list l hg
  rw [List.length_map] at hl ⊢
  refine lawWakes W k hk A0 c0 m hl (fun hp => ?_) hm
  obtain ⟨b, off, e, hb, hc⟩ := hr (by rw [List.length_map]; exact hp)
  exact ⟨b, off, e, hb, fun i x hx j v hv => hc i (x : Int) (by rw [List.getElem?_map, hx]; rfl) j v hv⟩

set_option maxRecDepth 100000 in
theorem memoWakes_lifted (os : Os) (started : os.Started) (H : Type) (enc : TypeId × Value → H) :
    ReturnsInHanded {} Try.checked os 3 .any (Rows.memoWakesSpec.pre6 enc Try.prog Try.f3 Rows.memoWakesRow.domain false) (Rows.memoWakesSpec.post enc Try.prog Try.f3 false true false false) := by
  refine returnsInHanded_of_change (C := Try.checked) Try.own started (by kernel_rfl) Try.func3
    (ChangeSpec.witness6 (enc := enc) (C := Try.checked) false ⟨#[], #[.int .u8 0, .slice none 0 0], []⟩ 8 (by kernel_rfl) (by kernel_rfl) (by kernel_rfl) (by kernel_rfl)) ?_
  intro W base args ds gs before hval hW _ _
  obtain ⟨p, q, hA, hV, _, _, _⟩ := id hW
  rw [show Try.f3.params.toList = [5, 22] from rfl] at hA
  obtain ⟨v0, vs0, d0, ds0, p0, q0, hargs, hds, _, h0, r0⟩ := trodAll_cons hA
  obtain ⟨v1, vs1, d1, ds1, p1, q1, rfl, rfl, _, h1, r1⟩ := trodAll_cons r0
  obtain ⟨rfl, rfl, _⟩ := trodAll_nil r1
  obtain rfl : args = #[v0, v1] := by cases args; simp_all
  obtain ⟨rfl, _⟩ := trodVars_none hV
  subst hds
  obtain ⟨n0, rfl, _, _, wn0⟩ := open_int Try.underlying5 (hval 0 5 v0 rfl rfl) h0
  obtain ⟨a1, len1, cap1, rfl⟩ := okWide_slice Try.underlying22 (hval 1 22 v1 rfl rfl)
  obtain ⟨l1, rfl, hrow1, hfit1, hmax1⟩ := read_slice (cells := u8Cells) Try.underlying22 c5 (by omega) u8_elem rfl h1
  exact law_post (bt := 4) Try.laidOut (by kernel_rfl) rfl Try.underlying4 rfl rfl hW (rowMemoWakes W n0 wn0 a1 cap1 l1 (below_max hmax1) hrow1 hfit1)

theorem memoWakes_holds : Rows.MemoWakesSaid :=
  OpenClaim.holds_of_wide 3 Try.f3 rfl rfl rfl rfl rfl rfl rfl ⟨rfl, rfl, rfl, rfl, rfl⟩ rfl rfl rfl rfl rfl (by kernel_rfl) Try.func3 (by kernel_rfl)
    (of_decide_eq_true (by kernel_rfl)) (by unfold Func.isWrapper; first | (rw [if_pos (by decide +kernel)]; kernel_rfl) | (rw [if_neg (by decide +kernel)]; exact ⟨rfl, rfl⟩))
    (fun os started H enc _ => memoWakes_lifted os started H enc)

end Go.Proofs.Ytjghbcligjiaaaa
