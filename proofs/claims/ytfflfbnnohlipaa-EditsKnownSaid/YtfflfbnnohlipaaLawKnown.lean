/- The law EditsKnown: its beginning. -/
import Derived.Test.YtfflfbnnohlipaaAwake
import Derived.Test.YtfflfbnnohlipaaInvert
import Derived.Test.YtfflfbnnohlipaaSortHere
import Derived.Test.YtfflfbnnohlipaaFlat
import Derived.Test.YtfflfbnnohlipaaKnownC
import Derived.Test.YtfflfbnnohlipaaLawMoves
import Derived.Test.YtfflfbnnohlipaaLawKeeps
namespace Go.Proofs.Ytfflfbnnohlipaa
open Go.RowKit
set_option linter.unusedVariables false
set_option linter.unusedSimpArgs false

def invL : List Spl := [⟨1, 2, ⟨#[98, 99]⟩⟩, ⟨2, 3, ⟨#[]⟩⟩, ⟨3, 4, ⟨#[]⟩⟩]
theorem inv_is : invertV ⟨#[97, 98, 99, 100, 101, 102]⟩ someL = invL := by decide +kernel
theorem small_some : Small someL := by intro x hx; simp [someL] at hx; rcases hx with rfl | rfl | rfl <;> decide
theorem inv_known (A : Option Addr) (c : Nat) (w : World) (hr : Row w w.heap.size A someL) :
    Calls Try.prog 17 #[.string ⟨#[97, 98, 99, 100, 101, 102]⟩, .slice A 3 c] w fun e w' => (∃ b off c, e = .returned (.tuple #[.slice (some ⟨b, off, none⟩) 3 c, .int .i64 0]) ∧ Row w' w'.heap.size (some ⟨b, off, none⟩) invL) ∧ Below w.heap.size w w' := by
  refine (invert_yes A c someL ⟨#[97, 98, 99, 100, 101, 102]⟩ w (by decide) small_some (by decide) hr (by decide +kernel)).mono fun e w' ⟨⟨A, c, he, hr⟩, hb⟩ => ?_
  rw [inv_is] at he hr
  obtain ⟨b, off, rfl, _, _⟩ := Spl.at_ (k := 0) hr rfl
  exact ⟨⟨b, off, c, he, hr⟩, hb⟩


def pls : List Int := [0, 1, 2, 3, 6, (-1), 4611686018427387905]
def wns : List Int := [0, 0, 0, 4, 7, 0, 0]
theorem mv_0 (A : Option Addr) (c : Nat) (w : World) (hr : Row w w.heap.size A someL) : Calls Try.prog 12 #[.slice A someL.length c, .int .i64 0] w fun e w' => e = .returned (.tuple #[.int .i64 0, .bool true]) ∧ Below w.heap.size w w' :=
  (moved_any A c someL 0 w (by decide) small_some hr).mono fun e w' ⟨h, hb⟩ => ⟨by rw [h, show movedI someL 0 = 0 by decide +kernel, show goodAt someL 0 = true by decide +kernel], hb⟩
theorem mv_1 (A : Option Addr) (c : Nat) (w : World) (hr : Row w w.heap.size A someL) : Calls Try.prog 12 #[.slice A someL.length c, .int .i64 1] w fun e w' => e = .returned (.tuple #[.int .i64 0, .bool false]) ∧ Below w.heap.size w w' :=
  (moved_any A c someL 1 w (by decide) small_some hr).mono fun e w' ⟨h, hb⟩ => ⟨by rw [h, show movedI someL 1 = 0 by decide +kernel, show goodAt someL 1 = false by decide +kernel], hb⟩
theorem mv_2 (A : Option Addr) (c : Nat) (w : World) (hr : Row w w.heap.size A someL) : Calls Try.prog 12 #[.slice A someL.length c, .int .i64 2] w fun e w' => e = .returned (.tuple #[.int .i64 0, .bool false]) ∧ Below w.heap.size w w' :=
  (moved_any A c someL 2 w (by decide) small_some hr).mono fun e w' ⟨h, hb⟩ => ⟨by rw [h, show movedI someL 2 = 0 by decide +kernel, show goodAt someL 2 = false by decide +kernel], hb⟩
theorem mv_3 (A : Option Addr) (c : Nat) (w : World) (hr : Row w w.heap.size A someL) : Calls Try.prog 12 #[.slice A someL.length c, .int .i64 3] w fun e w' => e = .returned (.tuple #[.int .i64 4, .bool true]) ∧ Below w.heap.size w w' :=
  (moved_any A c someL 3 w (by decide) small_some hr).mono fun e w' ⟨h, hb⟩ => ⟨by rw [h, show movedI someL 3 = 4 by decide +kernel, show goodAt someL 3 = true by decide +kernel], hb⟩
theorem mv_4 (A : Option Addr) (c : Nat) (w : World) (hr : Row w w.heap.size A someL) : Calls Try.prog 12 #[.slice A someL.length c, .int .i64 6] w fun e w' => e = .returned (.tuple #[.int .i64 7, .bool true]) ∧ Below w.heap.size w w' :=
  (moved_any A c someL 6 w (by decide) small_some hr).mono fun e w' ⟨h, hb⟩ => ⟨by rw [h, show movedI someL 6 = 7 by decide +kernel, show goodAt someL 6 = true by decide +kernel], hb⟩
theorem mv_5 (A : Option Addr) (c : Nat) (w : World) (hr : Row w w.heap.size A someL) : Calls Try.prog 12 #[.slice A someL.length c, .int .i64 (-1)] w fun e w' => e = .returned (.tuple #[.int .i64 0, .bool false]) ∧ Below w.heap.size w w' :=
  (moved_any A c someL (-1) w (by decide) small_some hr).mono fun e w' ⟨h, hb⟩ => ⟨by rw [h, show movedI someL (-1) = 0 by decide +kernel, show goodAt someL (-1) = false by decide +kernel], hb⟩
theorem mv_6 (A : Option Addr) (c : Nat) (w : World) (hr : Row w w.heap.size A someL) : Calls Try.prog 12 #[.slice A someL.length c, .int .i64 4611686018427387905] w fun e w' => e = .returned (.tuple #[.int .i64 0, .bool false]) ∧ Below w.heap.size w w' :=
  (moved_any A c someL 4611686018427387905 w (by decide) small_some hr).mono fun e w' ⟨h, hb⟩ => ⟨by rw [h, show movedI someL 4611686018427387905 = 0 by decide +kernel, show goodAt someL 4611686018427387905 = false by decide +kernel], hb⟩
def bd0 : List Spl := [⟨3, 4, ⟨#[120]⟩⟩, ⟨2, 2, ⟨#[121]⟩⟩]
theorem bd0_small : Small bd0 := by intro x hx; simp [bd0] at hx; rcases hx with rfl | rfl <;> decide
theorem bd0_apply (A : Option Addr) (c : Nat) (w : World) (hr : Row w w.heap.size A bd0) : Calls Try.prog 16 #[.string ⟨#[97, 98, 99, 100, 101, 102]⟩, .slice A 2 c] w fun e w' => e = .returned (.tuple #[.string ⟨#[]⟩, .int .i64 2]) ∧ Below w.heap.size w w' :=
  (apply_small A c bd0 ⟨#[97, 98, 99, 100, 101, 102]⟩ w (by decide) bd0_small (by decide) hr).mono fun e w' ⟨h, hb⟩ => ⟨by rw [h, show applyE ⟨#[97, 98, 99, 100, 101, 102]⟩ bd0 = 2 by decide +kernel, show applyB ⟨#[97, 98, 99, 100, 101, 102]⟩ bd0 = ⟨#[]⟩ by decide +kernel], hb⟩
theorem bd0_moved (A : Option Addr) (c : Nat) (w : World) (hr : Row w w.heap.size A bd0) : Calls Try.prog 12 #[.slice A 2 c, .int .i64 6] w fun e w' => e = .returned (.tuple #[.int .i64 (movedI bd0 6), .bool false]) ∧ Below w.heap.size w w' :=
  (moved_any A c bd0 6 w (by decide) bd0_small hr).mono fun e w' ⟨h, hb⟩ => ⟨by rw [h, show goodAt bd0 6 = false by decide +kernel], hb⟩
theorem bd0_check (A : Option Addr) (c : Nat) (w : World) (hr : Row w w.heap.size A bd0) : Calls Try.prog 18 #[.int .i64 6, .slice A 2 c] w fun e w' => e = .returned (.int .i64 2) ∧ Below w.heap.size w w' :=
  (check_any 6 A c bd0 w (by decide) hr).mono fun e w' ⟨h, hb⟩ => ⟨by rw [h, show checkV 6 bd0 = 2 by decide +kernel], hb⟩
def bd1 : List Spl := [⟨0, 7, ⟨#[120]⟩⟩]
theorem bd1_small : Small bd1 := by intro x hx; simp [bd1] at hx; rcases hx with rfl <;> decide
theorem bd1_apply (A : Option Addr) (c : Nat) (w : World) (hr : Row w w.heap.size A bd1) : Calls Try.prog 16 #[.string ⟨#[97, 98, 99, 100, 101, 102]⟩, .slice A 1 c] w fun e w' => e = .returned (.tuple #[.string ⟨#[]⟩, .int .i64 2]) ∧ Below w.heap.size w w' :=
  (apply_small A c bd1 ⟨#[97, 98, 99, 100, 101, 102]⟩ w (by decide) bd1_small (by decide) hr).mono fun e w' ⟨h, hb⟩ => ⟨by rw [h, show applyE ⟨#[97, 98, 99, 100, 101, 102]⟩ bd1 = 2 by decide +kernel, show applyB ⟨#[97, 98, 99, 100, 101, 102]⟩ bd1 = ⟨#[]⟩ by decide +kernel], hb⟩
theorem bd1_moved (A : Option Addr) (c : Nat) (w : World) (hr : Row w w.heap.size A bd1) : Calls Try.prog 12 #[.slice A 1 c, .int .i64 6] w fun e w' => e = .returned (.tuple #[.int .i64 (movedI bd1 6), .bool false]) ∧ Below w.heap.size w w' :=
  (moved_any A c bd1 6 w (by decide) bd1_small hr).mono fun e w' ⟨h, hb⟩ => ⟨by rw [h, show goodAt bd1 6 = false by decide +kernel], hb⟩
theorem bd1_check (A : Option Addr) (c : Nat) (w : World) (hr : Row w w.heap.size A bd1) : Calls Try.prog 18 #[.int .i64 6, .slice A 1 c] w fun e w' => e = .returned (.int .i64 2) ∧ Below w.heap.size w w' :=
  (check_any 6 A c bd1 w (by decide) hr).mono fun e w' ⟨h, hb⟩ => ⟨by rw [h, show checkV 6 bd1 = 2 by decide +kernel], hb⟩
def bd2 : List Spl := [⟨2, 1, ⟨#[120]⟩⟩]
theorem bd2_small : Small bd2 := by intro x hx; simp [bd2] at hx; rcases hx with rfl <;> decide
theorem bd2_apply (A : Option Addr) (c : Nat) (w : World) (hr : Row w w.heap.size A bd2) : Calls Try.prog 16 #[.string ⟨#[97, 98, 99, 100, 101, 102]⟩, .slice A 1 c] w fun e w' => e = .returned (.tuple #[.string ⟨#[]⟩, .int .i64 2]) ∧ Below w.heap.size w w' :=
  (apply_small A c bd2 ⟨#[97, 98, 99, 100, 101, 102]⟩ w (by decide) bd2_small (by decide) hr).mono fun e w' ⟨h, hb⟩ => ⟨by rw [h, show applyE ⟨#[97, 98, 99, 100, 101, 102]⟩ bd2 = 2 by decide +kernel, show applyB ⟨#[97, 98, 99, 100, 101, 102]⟩ bd2 = ⟨#[]⟩ by decide +kernel], hb⟩
theorem bd2_moved (A : Option Addr) (c : Nat) (w : World) (hr : Row w w.heap.size A bd2) : Calls Try.prog 12 #[.slice A 1 c, .int .i64 6] w fun e w' => e = .returned (.tuple #[.int .i64 (movedI bd2 6), .bool false]) ∧ Below w.heap.size w w' :=
  (moved_any A c bd2 6 w (by decide) bd2_small hr).mono fun e w' ⟨h, hb⟩ => ⟨by rw [h, show goodAt bd2 6 = false by decide +kernel], hb⟩
theorem bd2_check (A : Option Addr) (c : Nat) (w : World) (hr : Row w w.heap.size A bd2) : Calls Try.prog 18 #[.int .i64 6, .slice A 1 c] w fun e w' => e = .returned (.int .i64 2) ∧ Below w.heap.size w w' :=
  (check_any 6 A c bd2 w (by decide) hr).mono fun e w' ⟨h, hb⟩ => ⟨by rw [h, show checkV 6 bd2 = 2 by decide +kernel], hb⟩
def bd3 : List Spl := [⟨(-1), 0, ⟨#[120]⟩⟩]
theorem bd3_small : Small bd3 := by intro x hx; simp [bd3] at hx; rcases hx with rfl <;> decide
theorem bd3_apply (A : Option Addr) (c : Nat) (w : World) (hr : Row w w.heap.size A bd3) : Calls Try.prog 16 #[.string ⟨#[97, 98, 99, 100, 101, 102]⟩, .slice A 1 c] w fun e w' => e = .returned (.tuple #[.string ⟨#[]⟩, .int .i64 2]) ∧ Below w.heap.size w w' :=
  (apply_small A c bd3 ⟨#[97, 98, 99, 100, 101, 102]⟩ w (by decide) bd3_small (by decide) hr).mono fun e w' ⟨h, hb⟩ => ⟨by rw [h, show applyE ⟨#[97, 98, 99, 100, 101, 102]⟩ bd3 = 2 by decide +kernel, show applyB ⟨#[97, 98, 99, 100, 101, 102]⟩ bd3 = ⟨#[]⟩ by decide +kernel], hb⟩
theorem bd3_moved (A : Option Addr) (c : Nat) (w : World) (hr : Row w w.heap.size A bd3) : Calls Try.prog 12 #[.slice A 1 c, .int .i64 6] w fun e w' => e = .returned (.tuple #[.int .i64 (movedI bd3 6), .bool false]) ∧ Below w.heap.size w w' :=
  (moved_any A c bd3 6 w (by decide) bd3_small hr).mono fun e w' ⟨h, hb⟩ => ⟨by rw [h, show goodAt bd3 6 = false by decide +kernel], hb⟩
theorem bd3_check (A : Option Addr) (c : Nat) (w : World) (hr : Row w w.heap.size A bd3) : Calls Try.prog 18 #[.int .i64 6, .slice A 1 c] w fun e w' => e = .returned (.int .i64 2) ∧ Below w.heap.size w w' :=
  (check_any 6 A c bd3 w (by decide) hr).mono fun e w' ⟨h, hb⟩ => ⟨by rw [h, show checkV 6 bd3 = 2 by decide +kernel], hb⟩
def bd4 : List Spl := [⟨0, 3, ⟨#[]⟩⟩, ⟨2, 4, ⟨#[]⟩⟩]
theorem bd4_small : Small bd4 := by intro x hx; simp [bd4] at hx; rcases hx with rfl | rfl <;> decide
theorem bd4_apply (A : Option Addr) (c : Nat) (w : World) (hr : Row w w.heap.size A bd4) : Calls Try.prog 16 #[.string ⟨#[97, 98, 99, 100, 101, 102]⟩, .slice A 2 c] w fun e w' => e = .returned (.tuple #[.string ⟨#[]⟩, .int .i64 2]) ∧ Below w.heap.size w w' :=
  (apply_small A c bd4 ⟨#[97, 98, 99, 100, 101, 102]⟩ w (by decide) bd4_small (by decide) hr).mono fun e w' ⟨h, hb⟩ => ⟨by rw [h, show applyE ⟨#[97, 98, 99, 100, 101, 102]⟩ bd4 = 2 by decide +kernel, show applyB ⟨#[97, 98, 99, 100, 101, 102]⟩ bd4 = ⟨#[]⟩ by decide +kernel], hb⟩
theorem bd4_moved (A : Option Addr) (c : Nat) (w : World) (hr : Row w w.heap.size A bd4) : Calls Try.prog 12 #[.slice A 2 c, .int .i64 6] w fun e w' => e = .returned (.tuple #[.int .i64 (movedI bd4 6), .bool false]) ∧ Below w.heap.size w w' :=
  (moved_any A c bd4 6 w (by decide) bd4_small hr).mono fun e w' ⟨h, hb⟩ => ⟨by rw [h, show goodAt bd4 6 = false by decide +kernel], hb⟩
theorem bd4_check (A : Option Addr) (c : Nat) (w : World) (hr : Row w w.heap.size A bd4) : Calls Try.prog 18 #[.int .i64 6, .slice A 2 c] w fun e w' => e = .returned (.int .i64 2) ∧ Below w.heap.size w w' :=
  (check_any 6 A c bd4 w (by decide) hr).mono fun e w' ⟨h, hb⟩ => ⟨by rw [h, show checkV 6 bd4 = 2 by decide +kernel], hb⟩
def srL : List Spl := [⟨3, 4, ⟨#[120]⟩⟩, ⟨3, 3, ⟨#[121]⟩⟩, ⟨1, 2, ⟨#[122]⟩⟩]
def srD : List Spl := [⟨1, 2, ⟨#[122]⟩⟩, ⟨3, 3, ⟨#[121]⟩⟩, ⟨3, 4, ⟨#[120]⟩⟩]
theorem sort_known (A : Addr) (c : Nat) (w : World) (hr : Row w w.heap.size (some A) srL) : Calls Try.prog 28 #[.slice (some A) 3 c] w fun e w' => (∃ b off c, e = .returned (.slice (some ⟨b, off, none⟩) 3 c) ∧ Row w' w'.heap.size (some ⟨b, off, none⟩) srD) ∧ Below w.heap.size w w' := by
  refine (sort_any (some A) c srL w (by decide) hr (fun h => by cases h)).mono fun e w' ⟨⟨A, c, he, hr⟩, hb⟩ => ?_
  rw [show sortB srL = srD by decide +kernel] at he hr
  obtain ⟨b, off, rfl, _, _⟩ := Spl.at_ (k := 0) hr rfl
  exact ⟨⟨b, off, c, he, hr⟩, hb⟩
set_option maxRecDepth 100000 in
set_option maxHeartbeats 60000000 in
theorem known1 (w : World) : Calls Try.prog 10 #[] w fun e w' => e = .returned (.bool true) ∧ Below w.heap.size w w' := by
  go_enter Try.func10, Try.ntmps10
  go_wp2_with fail
  refine (some_any _).mono ?_
  rintro e w1 ⟨⟨A1, c1, rfl, r1⟩, hb1⟩
  go_wp2_with fail
  refine (inv_known _ _ _ r1).mono ?_
  rintro e w2 ⟨⟨b2, o2, c2, rfl, r2⟩, hb2⟩
  obtain ⟨_, _, he0, hlt0, a0, a1, a2⟩ := Spl.at_ (k := 0) r2 rfl
  injection he0 with he0
  injection he0 with h1 h2 _
  subst h1 h2
  obtain ⟨_, _, he0, _, d0, d1, d2⟩ := Spl.at_ (k := 1) r2 rfl
  injection he0 with he0
  injection he0 with h1 h2 _
  subst h1 h2
  obtain ⟨_, _, he0, _, f0, f1, f2⟩ := Spl.at_ (k := 2) r2 rfl
  injection he0 with he0
  injection he0 with h1 h2 _
  subst h1 h2
  have HB2 := Lib.hid (below_then hb1 hb2)
  simp only [Nat.zero_mul, Nat.one_mul, Nat.add_zero, Nat.reduceMul, Nat.add_assoc, Nat.reduceAdd] at a0 a1 a2 d0 d1 d2 f0 f1 f2
  clear r1 r2 hb1 hb2
  have q1 : ∀ w : World, (binOp .neq 33 (.agg #[.int .i64 1, .int .i64 2, .string ⟨#[98, 99]⟩]) (.agg #[.int .i64 1, .int .i64 2, .string ⟨#[98, 99]⟩])).run Try.prog w = .ok (.bool false) w := fun _ => by kernel_rfl
  have q2 : ∀ w : World, (binOp .neq 33 (.agg #[.int .i64 2, .int .i64 3, .string ⟨#[]⟩]) (.agg #[.int .i64 2, .int .i64 3, .string ⟨#[]⟩])).run Try.prog w = .ok (.bool false) w := fun _ => by kernel_rfl
  have q3 : ∀ w : World, (binOp .neq 33 (.agg #[.int .i64 3, .int .i64 4, .string ⟨#[]⟩]) (.agg #[.int .i64 3, .int .i64 4, .string ⟨#[]⟩])).run Try.prog w = .ok (.bool false) w := fun _ => by kernel_rfl
  go_wp2_with fail
  go_region_held3 (fun w' => b2 < w'.heap.size ∧ w'.cell? ⟨b2, o2, none⟩ = some (.int .i64 1) ∧ w'.cell? ⟨b2, o2 + 1, none⟩ = some (.int .i64 2) ∧ w'.cell? ⟨b2, o2 + 2, none⟩ = some (.string ⟨#[98, 99]⟩) ∧
      w'.cell? ⟨b2, o2 + 3, none⟩ = some (.int .i64 2) ∧ w'.cell? ⟨b2, o2 + 4, none⟩ = some (.int .i64 3) ∧ w'.cell? ⟨b2, o2 + 5, none⟩ = some (.string ⟨#[]⟩) ∧
      w'.cell? ⟨b2, o2 + 6, none⟩ = some (.int .i64 3) ∧ w'.cell? ⟨b2, o2 + 7, none⟩ = some (.int .i64 4) ∧ w'.cell? ⟨b2, o2 + 8, none⟩ = some (.string ⟨#[]⟩) ∧ Below w2.heap.size w2 w')
    (first
      | (go_keep; done)
      | (go_split_ands
         refine ⟨?_, ?_, ?_, ?_, ?_, ?_, ?_, ?_, ?_, ?_, ?_⟩ <;> first
          | (go_keep; done)
          | assumption
          | exact (Below.refl _ _).drew
          | exact Nat.lt_of_lt_of_le (by assumption) hbS.size
          | (rw [hbS.cell (by assumption)]; assumption)
          | exact below_then (Below.refl _ _).drew hbS
          | exact below_then (by assumption) hbS))
    (first | (go_at_call 25; refine (of_any _ _ _ _).mono ?_; rintro e w3 ⟨rfl, hbS⟩))
  rename_i hH
  obtain ⟨_, _, _, _, _, _, _, _, _, _, hb3⟩ := hH
  have B3 := Lib.hid (below_then HB2.out hb3)
  clear hb3 a0 a1 a2 d0 d1 d2 f0 f1 f2 q1 q2 q3 hlt0 HB2
  go_wp2_with fail
  generalize hWb : (w3.alloc (.cells #[.int .i64 0, .int .i64 1, .int .i64 2, .int .i64 3, .int .i64 6, .int .i64 (-1), .int .i64 4611686018427387905] 3)).alloc (.cells #[.int .i64 0, .int .i64 0, .int .i64 0, .int .i64 4, .int .i64 7, .int .i64 0, .int .i64 0] 3) = Wb
  have hp : ∀ k v, pls[k]? = some v → Wb.cell? ⟨w3.heap.size, k, none⟩ = some (.int .i64 v) := fun k v hv => by
    rw [← hWb, World.cell?_alloc_past _ _ _ (by simp only [World.alloc, Array.size_push]; omega)]
    show (w3.alloc (.cells (pls.map (Value.int .i64)).toArray 3)).cell? ⟨w3.heap.size, k, none⟩ = some (.int .i64 v)
    rw [World.cell?_alloc_at _ _ _ _ rfl]
    simp [hv]
  have hw : ∀ k v, wns[k]? = some v → Wb.cell? ⟨w3.heap.size + 1, k, none⟩ = some (.int .i64 v) := fun k v hv => by
    rw [← hWb]
    show ((w3.alloc _).alloc (.cells (wns.map (Value.int .i64)).toArray 3)).cell? ⟨w3.heap.size + 1, k, none⟩ = some (.int .i64 v)
    rw [World.cell?_alloc_at _ _ _ _ (by simp only [World.alloc, Array.size_push])]
    simp [hv]
  have hbW : Below w3.heap.size w3 Wb := by rw [← hWb]; exact ((Below.refl _ _).alloc (Nat.le_refl _) _).alloc (by simp only [World.alloc, Array.size_push]; omega) _
  have hsz : w3.heap.size + 1 < Wb.heap.size := by rw [← hWb]; simp only [World.alloc, Array.size_push]; omega
  have BW := Lib.hid (below_then B3.out hbW)
  have HP := Lib.hid hp
  have HWN := Lib.hid hw
  generalize hN : w3.heap.size = N at *
  have hsz2 : N < Wb.heap.size := by omega
  clear hWb hp hw hbW B3
  go_loopw [5, 6, 7] (fun iv pv bv wr => ∃ k : Nat, k ≤ 7 ∧ iv = .int .i64 k ∧ Below Wb.heap.size Wb wr) (fun iv _ _ _ => 7 - (intOf iv).toNat)
  case atStart => exact ⟨0, by omega, rfl, Below.refl _ _⟩
  case round =>
    obtain ⟨k, hk, rfl, hbr⟩ := hrel
    have BR := Lib.hid hbr
    have hszr := Nat.lt_of_lt_of_le hsz hbr.size
    have hszr2 : N < wr.heap.size := by omega
    have hdr := (Below.refl wr.heap.size wr).drew
    clear hbr
    by_cases hlt : k < 7
    · have hk7 : k = 0 ∨ k = 1 ∨ k = 2 ∨ k = 3 ∨ k = 4 ∨ k = 5 ∨ k = 6 := by omega
      have hks : (k : Int) < 7 := by omega
      have hk0 : (0 : Int) ≤ (k : Int) := by omega
      clear hk
      rcases hk7 with hk | hk | hk | hk | hk | hk | hk
      · have c1 := (BR.out.cell (p := ⟨N, k, none⟩) hsz2).trans (HP.out k 0 (by rw [hk]; rfl))
        have c2 := (BR.out.cell (p := ⟨N + 1, k, none⟩) hsz).trans (HWN.out k 0 (by rw [hk]; rfl))
        have k0 : ((k : Int) == 0) = true := by rw [hk]; rfl
        have k3 : ((k : Int) == 3) = false := by rw [hk]; rfl
        have k4 : ((k : Int) == 4) = false := by rw [hk]; rfl
        clear hk
        go_wp2_with fail
        go_region_held3 (fun w' => N + 1 < w'.heap.size ∧ N < w'.heap.size ∧ w'.cell? ⟨N, k, none⟩ = some (.int .i64 0) ∧ w'.cell? ⟨N + 1, k, none⟩ = some (.int .i64 0) ∧ Below wr.heap.size wr w')
          (first
            | (go_keep; done)
            | (go_split_ands
               refine ⟨?_, ?_, ?_, ?_, ?_⟩ <;> first
                | (go_keep; done)
                | assumption
                | exact (Below.refl _ _).drew
                | exact hszr
                | exact hszr2
                | exact hdr
                | exact Nat.lt_of_lt_of_le (by assumption) hbS.size
                | (rw [hbS.cell (by assumption)]; assumption)
                | exact below_then (Below.refl _ _).drew hbS
                | exact below_then (by assumption) hbS))
          (first | (go_at_call 31; refine (some_any _).mono ?_; rintro e wS ⟨⟨As, cs, rfl, rs⟩, hbS⟩) | (go_at_call 12; refine (mv_0 _ _ _ rs).mono ?_; rintro e wM ⟨rfl, hbS⟩))
        rename_i hH
        obtain ⟨_, _, c1b, c2b, hbN⟩ := hH
        have BN := Lib.hid (below_then BR.out hbN)
        clear c1 c2 hbN
        go_wp2_with fail
        go_roundw
        case rel => exact ⟨k + 1, by omega, by go_num, BN.out⟩
        case measure => simp [intOf]; omega
      · have c1 := (BR.out.cell (p := ⟨N, k, none⟩) hsz2).trans (HP.out k 1 (by rw [hk]; rfl))
        have c2 := (BR.out.cell (p := ⟨N + 1, k, none⟩) hsz).trans (HWN.out k 0 (by rw [hk]; rfl))
        have k0 : ((k : Int) == 0) = false := by rw [hk]; rfl
        have k3 : ((k : Int) == 3) = false := by rw [hk]; rfl
        have k4 : ((k : Int) == 4) = false := by rw [hk]; rfl
        clear hk
        go_wp2_with fail
        go_region_held3 (fun w' => N + 1 < w'.heap.size ∧ N < w'.heap.size ∧ w'.cell? ⟨N, k, none⟩ = some (.int .i64 1) ∧ w'.cell? ⟨N + 1, k, none⟩ = some (.int .i64 0) ∧ Below wr.heap.size wr w')
          (first
            | (go_keep; done)
            | (go_split_ands
               refine ⟨?_, ?_, ?_, ?_, ?_⟩ <;> first
                | (go_keep; done)
                | assumption
                | exact (Below.refl _ _).drew
                | exact hszr
                | exact hszr2
                | exact hdr
                | exact Nat.lt_of_lt_of_le (by assumption) hbS.size
                | (rw [hbS.cell (by assumption)]; assumption)
                | exact below_then (Below.refl _ _).drew hbS
                | exact below_then (by assumption) hbS))
          (first | (go_at_call 31; refine (some_any _).mono ?_; rintro e wS ⟨⟨As, cs, rfl, rs⟩, hbS⟩) | (go_at_call 12; refine (mv_1 _ _ _ rs).mono ?_; rintro e wM ⟨rfl, hbS⟩))
        rename_i hH
        obtain ⟨_, _, c1b, c2b, hbN⟩ := hH
        have BN := Lib.hid (below_then BR.out hbN)
        clear c1 c2 hbN
        go_wp2_with fail
        go_roundw
        case rel => exact ⟨k + 1, by omega, by go_num, BN.out⟩
        case measure => simp [intOf]; omega
      · have c1 := (BR.out.cell (p := ⟨N, k, none⟩) hsz2).trans (HP.out k 2 (by rw [hk]; rfl))
        have c2 := (BR.out.cell (p := ⟨N + 1, k, none⟩) hsz).trans (HWN.out k 0 (by rw [hk]; rfl))
        have k0 : ((k : Int) == 0) = false := by rw [hk]; rfl
        have k3 : ((k : Int) == 3) = false := by rw [hk]; rfl
        have k4 : ((k : Int) == 4) = false := by rw [hk]; rfl
        clear hk
        go_wp2_with fail
        go_region_held3 (fun w' => N + 1 < w'.heap.size ∧ N < w'.heap.size ∧ w'.cell? ⟨N, k, none⟩ = some (.int .i64 2) ∧ w'.cell? ⟨N + 1, k, none⟩ = some (.int .i64 0) ∧ Below wr.heap.size wr w')
          (first
            | (go_keep; done)
            | (go_split_ands
               refine ⟨?_, ?_, ?_, ?_, ?_⟩ <;> first
                | (go_keep; done)
                | assumption
                | exact (Below.refl _ _).drew
                | exact hszr
                | exact hszr2
                | exact hdr
                | exact Nat.lt_of_lt_of_le (by assumption) hbS.size
                | (rw [hbS.cell (by assumption)]; assumption)
                | exact below_then (Below.refl _ _).drew hbS
                | exact below_then (by assumption) hbS))
          (first | (go_at_call 31; refine (some_any _).mono ?_; rintro e wS ⟨⟨As, cs, rfl, rs⟩, hbS⟩) | (go_at_call 12; refine (mv_2 _ _ _ rs).mono ?_; rintro e wM ⟨rfl, hbS⟩))
        rename_i hH
        obtain ⟨_, _, c1b, c2b, hbN⟩ := hH
        have BN := Lib.hid (below_then BR.out hbN)
        clear c1 c2 hbN
        go_wp2_with fail
        go_roundw
        case rel => exact ⟨k + 1, by omega, by go_num, BN.out⟩
        case measure => simp [intOf]; omega
      · have c1 := (BR.out.cell (p := ⟨N, k, none⟩) hsz2).trans (HP.out k 3 (by rw [hk]; rfl))
        have c2 := (BR.out.cell (p := ⟨N + 1, k, none⟩) hsz).trans (HWN.out k 4 (by rw [hk]; rfl))
        have k0 : ((k : Int) == 0) = false := by rw [hk]; rfl
        have k3 : ((k : Int) == 3) = true := by rw [hk]; rfl
        have k4 : ((k : Int) == 4) = false := by rw [hk]; rfl
        clear hk
        go_wp2_with fail
        go_region_held3 (fun w' => N + 1 < w'.heap.size ∧ N < w'.heap.size ∧ w'.cell? ⟨N, k, none⟩ = some (.int .i64 3) ∧ w'.cell? ⟨N + 1, k, none⟩ = some (.int .i64 4) ∧ Below wr.heap.size wr w')
          (first
            | (go_keep; done)
            | (go_split_ands
               refine ⟨?_, ?_, ?_, ?_, ?_⟩ <;> first
                | (go_keep; done)
                | assumption
                | exact (Below.refl _ _).drew
                | exact hszr
                | exact hszr2
                | exact hdr
                | exact Nat.lt_of_lt_of_le (by assumption) hbS.size
                | (rw [hbS.cell (by assumption)]; assumption)
                | exact below_then (Below.refl _ _).drew hbS
                | exact below_then (by assumption) hbS))
          (first | (go_at_call 31; refine (some_any _).mono ?_; rintro e wS ⟨⟨As, cs, rfl, rs⟩, hbS⟩) | (go_at_call 12; refine (mv_3 _ _ _ rs).mono ?_; rintro e wM ⟨rfl, hbS⟩))
        rename_i hH
        obtain ⟨_, _, c1b, c2b, hbN⟩ := hH
        have BN := Lib.hid (below_then BR.out hbN)
        clear c1 c2 hbN
        go_wp2_with fail
        go_roundw
        case rel => exact ⟨k + 1, by omega, by go_num, BN.out⟩
        case measure => simp [intOf]; omega
      · have c1 := (BR.out.cell (p := ⟨N, k, none⟩) hsz2).trans (HP.out k 6 (by rw [hk]; rfl))
        have c2 := (BR.out.cell (p := ⟨N + 1, k, none⟩) hsz).trans (HWN.out k 7 (by rw [hk]; rfl))
        have k0 : ((k : Int) == 0) = false := by rw [hk]; rfl
        have k3 : ((k : Int) == 3) = false := by rw [hk]; rfl
        have k4 : ((k : Int) == 4) = true := by rw [hk]; rfl
        clear hk
        go_wp2_with fail
        go_region_held3 (fun w' => N + 1 < w'.heap.size ∧ N < w'.heap.size ∧ w'.cell? ⟨N, k, none⟩ = some (.int .i64 6) ∧ w'.cell? ⟨N + 1, k, none⟩ = some (.int .i64 7) ∧ Below wr.heap.size wr w')
          (first
            | (go_keep; done)
            | (go_split_ands
               refine ⟨?_, ?_, ?_, ?_, ?_⟩ <;> first
                | (go_keep; done)
                | assumption
                | exact (Below.refl _ _).drew
                | exact hszr
                | exact hszr2
                | exact hdr
                | exact Nat.lt_of_lt_of_le (by assumption) hbS.size
                | (rw [hbS.cell (by assumption)]; assumption)
                | exact below_then (Below.refl _ _).drew hbS
                | exact below_then (by assumption) hbS))
          (first | (go_at_call 31; refine (some_any _).mono ?_; rintro e wS ⟨⟨As, cs, rfl, rs⟩, hbS⟩) | (go_at_call 12; refine (mv_4 _ _ _ rs).mono ?_; rintro e wM ⟨rfl, hbS⟩))
        rename_i hH
        obtain ⟨_, _, c1b, c2b, hbN⟩ := hH
        have BN := Lib.hid (below_then BR.out hbN)
        clear c1 c2 hbN
        go_wp2_with fail
        go_roundw
        case rel => exact ⟨k + 1, by omega, by go_num, BN.out⟩
        case measure => simp [intOf]; omega
      · have c1 := (BR.out.cell (p := ⟨N, k, none⟩) hsz2).trans (HP.out k (-1) (by rw [hk]; rfl))
        have c2 := (BR.out.cell (p := ⟨N + 1, k, none⟩) hsz).trans (HWN.out k 0 (by rw [hk]; rfl))
        have k0 : ((k : Int) == 0) = false := by rw [hk]; rfl
        have k3 : ((k : Int) == 3) = false := by rw [hk]; rfl
        have k4 : ((k : Int) == 4) = false := by rw [hk]; rfl
        clear hk
        go_wp2_with fail
        go_region_held3 (fun w' => N + 1 < w'.heap.size ∧ N < w'.heap.size ∧ w'.cell? ⟨N, k, none⟩ = some (.int .i64 (-1)) ∧ w'.cell? ⟨N + 1, k, none⟩ = some (.int .i64 0) ∧ Below wr.heap.size wr w')
          (first
            | (go_keep; done)
            | (go_split_ands
               refine ⟨?_, ?_, ?_, ?_, ?_⟩ <;> first
                | (go_keep; done)
                | assumption
                | exact (Below.refl _ _).drew
                | exact hszr
                | exact hszr2
                | exact hdr
                | exact Nat.lt_of_lt_of_le (by assumption) hbS.size
                | (rw [hbS.cell (by assumption)]; assumption)
                | exact below_then (Below.refl _ _).drew hbS
                | exact below_then (by assumption) hbS))
          (first | (go_at_call 31; refine (some_any _).mono ?_; rintro e wS ⟨⟨As, cs, rfl, rs⟩, hbS⟩) | (go_at_call 12; refine (mv_5 _ _ _ rs).mono ?_; rintro e wM ⟨rfl, hbS⟩))
        rename_i hH
        obtain ⟨_, _, c1b, c2b, hbN⟩ := hH
        have BN := Lib.hid (below_then BR.out hbN)
        clear c1 c2 hbN
        go_wp2_with fail
        go_roundw
        case rel => exact ⟨k + 1, by omega, by go_num, BN.out⟩
        case measure => simp [intOf]; omega
      · have c1 := (BR.out.cell (p := ⟨N, k, none⟩) hsz2).trans (HP.out k 4611686018427387905 (by rw [hk]; rfl))
        have c2 := (BR.out.cell (p := ⟨N + 1, k, none⟩) hsz).trans (HWN.out k 0 (by rw [hk]; rfl))
        have k0 : ((k : Int) == 0) = false := by rw [hk]; rfl
        have k3 : ((k : Int) == 3) = false := by rw [hk]; rfl
        have k4 : ((k : Int) == 4) = false := by rw [hk]; rfl
        clear hk
        go_wp2_with fail
        go_region_held3 (fun w' => N + 1 < w'.heap.size ∧ N < w'.heap.size ∧ w'.cell? ⟨N, k, none⟩ = some (.int .i64 4611686018427387905) ∧ w'.cell? ⟨N + 1, k, none⟩ = some (.int .i64 0) ∧ Below wr.heap.size wr w')
          (first
            | (go_keep; done)
            | (go_split_ands
               refine ⟨?_, ?_, ?_, ?_, ?_⟩ <;> first
                | (go_keep; done)
                | assumption
                | exact (Below.refl _ _).drew
                | exact hszr
                | exact hszr2
                | exact hdr
                | exact Nat.lt_of_lt_of_le (by assumption) hbS.size
                | (rw [hbS.cell (by assumption)]; assumption)
                | exact below_then (Below.refl _ _).drew hbS
                | exact below_then (by assumption) hbS))
          (first | (go_at_call 31; refine (some_any _).mono ?_; rintro e wS ⟨⟨As, cs, rfl, rs⟩, hbS⟩) | (go_at_call 12; refine (mv_6 _ _ _ rs).mono ?_; rintro e wM ⟨rfl, hbS⟩))
        rename_i hH
        obtain ⟨_, _, c1b, c2b, hbN⟩ := hH
        have BN := Lib.hid (below_then BR.out hbN)
        clear c1 c2 hbN
        go_wp2_with fail
        go_roundw
        case rel => exact ⟨k + 1, by omega, by go_num, BN.out⟩
        case measure => simp [intOf]; omega
    · obtain rfl : k = 7 := by omega
      clear hk hlt
      have X0 := Lib.hid (below_then BW.out BR.out)
      clear BW HP HWN hsz hsz2 hszr hszr2 hdr BR
      go_wp2_with fail
      refine (of_any _ _ _ _).mono ?_
      rintro e x1 ⟨rfl, hb⟩
      have S1 := Lib.hid hb
      have X1 := Lib.hid (below_then X0.out S1.out)
      clear hb
      go_wp2_with fail
      refine (of_any _ _ _ _).mono ?_
      rintro e x2 ⟨rfl, hb⟩
      have S2 := Lib.hid hb
      have X2 := Lib.hid (below_then X1.out S2.out)
      clear hb
      go_wp2_with fail
      refine (of_any _ _ _ _).mono ?_
      rintro e x3 ⟨rfl, hb⟩
      have S3 := Lib.hid (below_then ((Below.refl x2.heap.size x2).alloc (Nat.le_refl _) _) hb)
      have R0 := Lib.hid ((RowOf.made (l := bd0) Spl.len x2 _ _ _ rfl _ rfl).after (Nat.le_refl _) hb)
      have X3 := Lib.hid (below_then X2.out S3.out)
      clear hb
      go_wp2_with fail
      refine (of_any _ _ _ _).mono ?_
      rintro e x4 ⟨rfl, hb⟩
      have S4 := Lib.hid (below_then ((Below.refl x3.heap.size x3).alloc (Nat.le_refl _) _) hb)
      have R1 := Lib.hid ((RowOf.made (l := bd1) Spl.len x3 _ _ _ rfl _ rfl).after (Nat.le_refl _) hb)
      have X4 := Lib.hid (below_then X3.out S4.out)
      clear hb
      replace R0 := Lib.hid (R0.out.after (Nat.le_refl _) S4.out)
      go_wp2_with fail
      refine (of_any _ _ _ _).mono ?_
      rintro e x5 ⟨rfl, hb⟩
      have S5 := Lib.hid (below_then ((Below.refl x4.heap.size x4).alloc (Nat.le_refl _) _) hb)
      have R2 := Lib.hid ((RowOf.made (l := bd2) Spl.len x4 _ _ _ rfl _ rfl).after (Nat.le_refl _) hb)
      have X5 := Lib.hid (below_then X4.out S5.out)
      clear hb
      replace R0 := Lib.hid (R0.out.after (Nat.le_refl _) S5.out)
      replace R1 := Lib.hid (R1.out.after (Nat.le_refl _) S5.out)
      go_wp2_with fail
      refine (of_any _ _ _ _).mono ?_
      rintro e x6 ⟨rfl, hb⟩
      have S6 := Lib.hid (below_then ((Below.refl x5.heap.size x5).alloc (Nat.le_refl _) _) hb)
      have R3 := Lib.hid ((RowOf.made (l := bd3) Spl.len x5 _ _ _ rfl _ rfl).after (Nat.le_refl _) hb)
      have X6 := Lib.hid (below_then X5.out S6.out)
      clear hb
      replace R0 := Lib.hid (R0.out.after (Nat.le_refl _) S6.out)
      replace R1 := Lib.hid (R1.out.after (Nat.le_refl _) S6.out)
      replace R2 := Lib.hid (R2.out.after (Nat.le_refl _) S6.out)
      go_wp2_with fail
      refine (of_any _ _ _ _).mono ?_
      rintro e x7 ⟨rfl, hb⟩
      have S7 := Lib.hid hb
      have X7 := Lib.hid (below_then X6.out S7.out)
      clear hb
      replace R0 := Lib.hid (R0.out.after (Nat.le_refl _) S7.out)
      replace R1 := Lib.hid (R1.out.after (Nat.le_refl _) S7.out)
      replace R2 := Lib.hid (R2.out.after (Nat.le_refl _) S7.out)
      replace R3 := Lib.hid (R3.out.after (Nat.le_refl _) S7.out)
      go_wp2_with fail
      generalize hQ : (x7.alloc (.cells #[.int .i64 0, .int .i64 3, .string ⟨#[]⟩, .int .i64 2, .int .i64 4, .string ⟨#[]⟩] 33)).alloc (.cells #[.slice (some ⟨x2.heap.size, 0, none⟩) 2 2, .slice (some ⟨x3.heap.size, 0, none⟩) 1 1, .slice (some ⟨x4.heap.size, 0, none⟩) 1 1, .slice (some ⟨x5.heap.size, 0, none⟩) 1 1, .slice (some ⟨x7.heap.size, 0, none⟩) 2 2] 22) = Wq
      have S8 := Lib.hid (show Below x7.heap.size x7 Wq by rw [← hQ]; exact ((Below.refl _ _).alloc (Nat.le_refl _) _).alloc (by simp only [World.alloc, Array.size_push] <;> omega) _)
      have R4 := Lib.hid (show Row Wq Wq.heap.size (some ⟨x7.heap.size, 0, none⟩) bd4 by rw [← hQ]; exact (RowOf.made (l := bd4) Spl.len x7 _ _ _ rfl _ rfl).after (Nat.le_refl _) ((Below.refl _ _).alloc (Nat.le_refl _) _))
      have hM : x7.heap.size + 1 < Wq.heap.size := by rw [← hQ]; simp only [World.alloc, Array.size_push] <;> omega
      have Q0 := Lib.hid (show Wq.cell? ⟨x7.heap.size + 1, 0, none⟩ = some (.slice (some ⟨x2.heap.size, 0, none⟩) 2 2) by rw [← hQ, World.cell?_alloc_at _ _ _ _ (by simp only [World.alloc, Array.size_push])]; rfl)
      have Q1 := Lib.hid (show Wq.cell? ⟨x7.heap.size + 1, 1, none⟩ = some (.slice (some ⟨x3.heap.size, 0, none⟩) 1 1) by rw [← hQ, World.cell?_alloc_at _ _ _ _ (by simp only [World.alloc, Array.size_push])]; rfl)
      have Q2 := Lib.hid (show Wq.cell? ⟨x7.heap.size + 1, 2, none⟩ = some (.slice (some ⟨x4.heap.size, 0, none⟩) 1 1) by rw [← hQ, World.cell?_alloc_at _ _ _ _ (by simp only [World.alloc, Array.size_push])]; rfl)
      have Q3 := Lib.hid (show Wq.cell? ⟨x7.heap.size + 1, 3, none⟩ = some (.slice (some ⟨x5.heap.size, 0, none⟩) 1 1) by rw [← hQ, World.cell?_alloc_at _ _ _ _ (by simp only [World.alloc, Array.size_push])]; rfl)
      have Q4 := Lib.hid (show Wq.cell? ⟨x7.heap.size + 1, 4, none⟩ = some (.slice (some ⟨x7.heap.size, 0, none⟩) 2 2) by rw [← hQ, World.cell?_alloc_at _ _ _ _ (by simp only [World.alloc, Array.size_push])]; rfl)
      have X8 := Lib.hid (below_then X7.out S8.out)
      replace R0 := Lib.hid (R0.out.after (Nat.le_refl _) S8.out)
      replace R1 := Lib.hid (R1.out.after (Nat.le_refl _) S8.out)
      replace R2 := Lib.hid (R2.out.after (Nat.le_refl _) S8.out)
      replace R3 := Lib.hid (R3.out.after (Nat.le_refl _) S8.out)
      clear hQ S8 S1 S2 S3 S4 S5 S6 S7 X0 X1 X2 X3 X4 X5 X6 X7
      generalize hM2 : x7.heap.size + 1 = M at *
      go_loopw [9, 10, 11, 12, 13] (fun iv pv bv qv rv wr => ∃ k : Nat, k ≤ 5 ∧ iv = .int .i64 k ∧ Below Wq.heap.size Wq wr) (fun iv _ _ _ _ _ => 5 - (intOf iv).toNat)
      case atStart => exact ⟨0, by omega, rfl, Below.refl _ _⟩
      case round =>
        obtain ⟨k, hk, rfl, hbr⟩ := hrel
        have BR := Lib.hid hbr
        have hM3 := Nat.lt_of_lt_of_le hM hbr.size
        clear hbr
        by_cases hlt : k < 5
        · have hk5 : k = 0 ∨ k = 1 ∨ k = 2 ∨ k = 3 ∨ k = 4 := by omega
          have hks : (k : Int) < 5 := by omega
          have hk0 : (0 : Int) ≤ (k : Int) := by omega
          clear hk hlt
          rcases hk5 with hk | hk | hk | hk | hk
          · have c1 : wr.cell? ⟨M, k, none⟩ = some (.slice (some ⟨x2.heap.size, 0, none⟩) 2 2) := (BR.out.cell (p := ⟨M, k, none⟩) hM).trans (by rw [hk]; exact Q0.out)
            have RK := Lib.hid (R0.out.after (Nat.le_refl _) BR.out)
            clear hk
            go_wp2_with fail
            refine (bd0_apply _ _ _ RK.out).mono ?_
            rintro e y1 ⟨rfl, hb⟩
            have c2 := (hb.cell (p := ⟨M, k, none⟩) hM3).trans c1
            have hM4 := Nat.lt_of_lt_of_le hM3 hb.size
            have RK2 := Lib.hid (RK.out.after (Nat.le_refl _) hb)
            have BN := Lib.hid (below_then BR.out hb)
            clear c1 hb
            go_wp2_with fail
            refine (bd0_moved _ _ _ RK2.out).mono ?_
            rintro e y2 ⟨rfl, hb⟩
            have c3 := (hb.cell (p := ⟨M, k, none⟩) hM4).trans c2
            have RK3 := Lib.hid (RK2.out.after (Nat.le_refl _) hb)
            have BN2 := Lib.hid (below_then BN.out hb)
            clear c2 hb
            go_wp2_with fail
            refine (bd0_check _ _ _ RK3.out).mono ?_
            rintro e y3 ⟨rfl, hb⟩
            have BN3 := Lib.hid (below_then BN2.out hb)
            clear c3 hb
            go_wp2_with fail
            go_roundw
            case rel => exact ⟨k + 1, by omega, by go_num, BN3.out⟩
            case measure => simp [intOf]; omega
          · have c1 : wr.cell? ⟨M, k, none⟩ = some (.slice (some ⟨x3.heap.size, 0, none⟩) 1 1) := (BR.out.cell (p := ⟨M, k, none⟩) hM).trans (by rw [hk]; exact Q1.out)
            have RK := Lib.hid (R1.out.after (Nat.le_refl _) BR.out)
            clear hk
            go_wp2_with fail
            refine (bd1_apply _ _ _ RK.out).mono ?_
            rintro e y1 ⟨rfl, hb⟩
            have c2 := (hb.cell (p := ⟨M, k, none⟩) hM3).trans c1
            have hM4 := Nat.lt_of_lt_of_le hM3 hb.size
            have RK2 := Lib.hid (RK.out.after (Nat.le_refl _) hb)
            have BN := Lib.hid (below_then BR.out hb)
            clear c1 hb
            go_wp2_with fail
            refine (bd1_moved _ _ _ RK2.out).mono ?_
            rintro e y2 ⟨rfl, hb⟩
            have c3 := (hb.cell (p := ⟨M, k, none⟩) hM4).trans c2
            have RK3 := Lib.hid (RK2.out.after (Nat.le_refl _) hb)
            have BN2 := Lib.hid (below_then BN.out hb)
            clear c2 hb
            go_wp2_with fail
            refine (bd1_check _ _ _ RK3.out).mono ?_
            rintro e y3 ⟨rfl, hb⟩
            have BN3 := Lib.hid (below_then BN2.out hb)
            clear c3 hb
            go_wp2_with fail
            go_roundw
            case rel => exact ⟨k + 1, by omega, by go_num, BN3.out⟩
            case measure => simp [intOf]; omega
          · have c1 : wr.cell? ⟨M, k, none⟩ = some (.slice (some ⟨x4.heap.size, 0, none⟩) 1 1) := (BR.out.cell (p := ⟨M, k, none⟩) hM).trans (by rw [hk]; exact Q2.out)
            have RK := Lib.hid (R2.out.after (Nat.le_refl _) BR.out)
            clear hk
            go_wp2_with fail
            refine (bd2_apply _ _ _ RK.out).mono ?_
            rintro e y1 ⟨rfl, hb⟩
            have c2 := (hb.cell (p := ⟨M, k, none⟩) hM3).trans c1
            have hM4 := Nat.lt_of_lt_of_le hM3 hb.size
            have RK2 := Lib.hid (RK.out.after (Nat.le_refl _) hb)
            have BN := Lib.hid (below_then BR.out hb)
            clear c1 hb
            go_wp2_with fail
            refine (bd2_moved _ _ _ RK2.out).mono ?_
            rintro e y2 ⟨rfl, hb⟩
            have c3 := (hb.cell (p := ⟨M, k, none⟩) hM4).trans c2
            have RK3 := Lib.hid (RK2.out.after (Nat.le_refl _) hb)
            have BN2 := Lib.hid (below_then BN.out hb)
            clear c2 hb
            go_wp2_with fail
            refine (bd2_check _ _ _ RK3.out).mono ?_
            rintro e y3 ⟨rfl, hb⟩
            have BN3 := Lib.hid (below_then BN2.out hb)
            clear c3 hb
            go_wp2_with fail
            go_roundw
            case rel => exact ⟨k + 1, by omega, by go_num, BN3.out⟩
            case measure => simp [intOf]; omega
          · have c1 : wr.cell? ⟨M, k, none⟩ = some (.slice (some ⟨x5.heap.size, 0, none⟩) 1 1) := (BR.out.cell (p := ⟨M, k, none⟩) hM).trans (by rw [hk]; exact Q3.out)
            have RK := Lib.hid (R3.out.after (Nat.le_refl _) BR.out)
            clear hk
            go_wp2_with fail
            refine (bd3_apply _ _ _ RK.out).mono ?_
            rintro e y1 ⟨rfl, hb⟩
            have c2 := (hb.cell (p := ⟨M, k, none⟩) hM3).trans c1
            have hM4 := Nat.lt_of_lt_of_le hM3 hb.size
            have RK2 := Lib.hid (RK.out.after (Nat.le_refl _) hb)
            have BN := Lib.hid (below_then BR.out hb)
            clear c1 hb
            go_wp2_with fail
            refine (bd3_moved _ _ _ RK2.out).mono ?_
            rintro e y2 ⟨rfl, hb⟩
            have c3 := (hb.cell (p := ⟨M, k, none⟩) hM4).trans c2
            have RK3 := Lib.hid (RK2.out.after (Nat.le_refl _) hb)
            have BN2 := Lib.hid (below_then BN.out hb)
            clear c2 hb
            go_wp2_with fail
            refine (bd3_check _ _ _ RK3.out).mono ?_
            rintro e y3 ⟨rfl, hb⟩
            have BN3 := Lib.hid (below_then BN2.out hb)
            clear c3 hb
            go_wp2_with fail
            go_roundw
            case rel => exact ⟨k + 1, by omega, by go_num, BN3.out⟩
            case measure => simp [intOf]; omega
          · have c1 : wr.cell? ⟨M, k, none⟩ = some (.slice (some ⟨x7.heap.size, 0, none⟩) 2 2) := (BR.out.cell (p := ⟨M, k, none⟩) hM).trans (by rw [hk]; exact Q4.out)
            have RK := Lib.hid (R4.out.after (Nat.le_refl _) BR.out)
            clear hk
            go_wp2_with fail
            refine (bd4_apply _ _ _ RK.out).mono ?_
            rintro e y1 ⟨rfl, hb⟩
            have c2 := (hb.cell (p := ⟨M, k, none⟩) hM3).trans c1
            have hM4 := Nat.lt_of_lt_of_le hM3 hb.size
            have RK2 := Lib.hid (RK.out.after (Nat.le_refl _) hb)
            have BN := Lib.hid (below_then BR.out hb)
            clear c1 hb
            go_wp2_with fail
            refine (bd4_moved _ _ _ RK2.out).mono ?_
            rintro e y2 ⟨rfl, hb⟩
            have c3 := (hb.cell (p := ⟨M, k, none⟩) hM4).trans c2
            have RK3 := Lib.hid (RK2.out.after (Nat.le_refl _) hb)
            have BN2 := Lib.hid (below_then BN.out hb)
            clear c2 hb
            go_wp2_with fail
            refine (bd4_check _ _ _ RK3.out).mono ?_
            rintro e y3 ⟨rfl, hb⟩
            have BN3 := Lib.hid (below_then BN2.out hb)
            clear c3 hb
            go_wp2_with fail
            go_roundw
            case rel => exact ⟨k + 1, by omega, by go_num, BN3.out⟩
            case measure => simp [intOf]; omega
        · obtain rfl : k = 5 := by omega
          clear hk hlt
          have X9 := Lib.hid (below_then X8.out BR.out)
          clear BR X8 Q0 Q1 Q2 Q3 Q4 R0 R1 R2 R3 R4 hM hM3
          go_wp2_with fail
          refine (of_any _ _ _ _).mono ?_
          rintro e x10 ⟨rfl, hb⟩
          have X10 := Lib.hid (below_then X9.out hb)
          clear hb
          go_wp2_with fail
          refine (of_any _ _ _ _).mono ?_
          rintro e x11 ⟨rfl, hb⟩
          have X11 := Lib.hid (below_then X10.out hb)
          clear hb
          go_wp2_with fail
          refine (of_any _ _ _ _).mono ?_
          rintro e x12 ⟨rfl, hb⟩
          have X12 := Lib.hid (below_then X11.out hb)
          clear hb
          go_wp2_with fail
          refine (sort_known _ _ _ (RowOf.made (l := srL) Spl.len x12 _ _ _ rfl _ rfl)).mono ?_
          rintro e x13 ⟨⟨b3, o3, c3, rfl, r3⟩, hb⟩
          have X13 := Lib.hid (below_then (X12.out.alloc X12.out.size _) hb)
          clear hb
          obtain ⟨_, _, he0, hltr, as0, as1, as2⟩ := Spl.at_ (k := 0) r3 rfl
          injection he0 with he0
          injection he0 with h1 h2 _
          subst h1 h2
          obtain ⟨_, _, he0, _, bs0, bs1, bs2⟩ := Spl.at_ (k := 1) r3 rfl
          injection he0 with he0
          injection he0 with h1 h2 _
          subst h1 h2
          obtain ⟨_, _, he0, _, ds0, ds1, ds2⟩ := Spl.at_ (k := 2) r3 rfl
          injection he0 with he0
          injection he0 with h1 h2 _
          subst h1 h2
          simp only [Nat.zero_mul, Nat.one_mul, Nat.add_zero, Nat.reduceMul, Nat.add_assoc, Nat.reduceAdd] at as0 as1 as2 bs0 bs1 bs2 ds0 ds1 ds2
          clear r3
          have q0 : ∀ w : World, (binOp .neq 33 (.agg #[.int .i64 1, .int .i64 2, .string ⟨#[122]⟩]) (.agg #[.int .i64 1, .int .i64 2, .string ⟨#[122]⟩])).run Try.prog w = .ok (.bool false) w := fun _ => by kernel_rfl
          have q1 : ∀ w : World, (binOp .neq 33 (.agg #[.int .i64 3, .int .i64 3, .string ⟨#[121]⟩]) (.agg #[.int .i64 3, .int .i64 3, .string ⟨#[121]⟩])).run Try.prog w = .ok (.bool false) w := fun _ => by kernel_rfl
          have q2 : ∀ w : World, (binOp .neq 33 (.agg #[.int .i64 3, .int .i64 4, .string ⟨#[120]⟩]) (.agg #[.int .i64 3, .int .i64 4, .string ⟨#[120]⟩])).run Try.prog w = .ok (.bool false) w := fun _ => by kernel_rfl
          go_wp2_with fail
          go_region_held3 (fun w' => b3 < w'.heap.size ∧ w'.cell? ⟨b3, o3, none⟩ = some (.int .i64 1) ∧ w'.cell? ⟨b3, o3 + 1, none⟩ = some (.int .i64 2) ∧ w'.cell? ⟨b3, o3 + 2, none⟩ = some (.string ⟨#[122]⟩) ∧ w'.cell? ⟨b3, o3 + 3, none⟩ = some (.int .i64 3) ∧ w'.cell? ⟨b3, o3 + 4, none⟩ = some (.int .i64 3) ∧ w'.cell? ⟨b3, o3 + 5, none⟩ = some (.string ⟨#[121]⟩) ∧ w'.cell? ⟨b3, o3 + 6, none⟩ = some (.int .i64 3) ∧ w'.cell? ⟨b3, o3 + 7, none⟩ = some (.int .i64 4) ∧ w'.cell? ⟨b3, o3 + 8, none⟩ = some (.string ⟨#[120]⟩) ∧ Below x13.heap.size x13 w')
            (first
              | (go_keep; done)
              | (go_split_ands
                 refine ⟨?_, ?_, ?_, ?_, ?_, ?_, ?_, ?_, ?_, ?_, ?_⟩ <;> first
                  | (go_keep; done)
                  | assumption
                  | exact (Below.refl _ _).drew
                  | exact Nat.lt_of_lt_of_le (by assumption) hbS.size
                  | (rw [hbS.cell (by assumption)]; assumption)
                  | exact below_then (Below.refl _ _).drew hbS
                  | exact below_then (by assumption) hbS))
            (first | (go_at_call 25; refine (of_any _ _ _ _).mono ?_; rintro e w3 ⟨rfl, hbS⟩))
          rename_i hH
          obtain ⟨_, _, _, _, _, _, _, _, _, _, hbN⟩ := hH
          have X14 := Lib.hid (below_then X13.out hbN)
          clear hbN hltr as0 as1 as2 bs0 bs1 bs2 ds0 ds1 ds2 q0 q1 q2
          have hw3 : w3 = w3 := rfl
          go_wp2_with fail
          refine (flat_1 w3.heap.size _ _ _ (RowOf.made (l := ([⟨0, 1, some ⟨w3.heap.size, 0, none⟩, 4, pt1⟩] : List RCut)) (cs := RCut.cells) (sz := 3) (fun x => rfl) _ _ _ _ rfl _ (by simp only [World.alloc, Array.size_push])) ((RowOf.made (l := pt1) Prt.len w3 _ _ _ rfl _ rfl).after (Nat.le_refl _) (Below.alloc (Below.refl _ _) (Nat.le_refl _) _))).mono ?_
          rintro e z1 ⟨⟨b4, o4, c4, rfl, r4⟩, hb⟩
          have S15 := Lib.hid (below_then (Below.alloc (Below.alloc (Below.refl w3.heap.size w3) (Below.size (Below.refl w3.heap.size w3)) _) (Below.size (Below.alloc (Below.refl w3.heap.size w3) (Below.size (Below.refl w3.heap.size w3)) _)) _) hb)
          have X15 := Lib.hid (below_then X14.out S15.out)
          clear hb
          go_wp2_with fail
          refine (flat_2 z1.heap.size _ _ _ (RowOf.made (l := ([⟨0, 0, some ⟨z1.heap.size, 0, none⟩, 1, pt2⟩] : List RCut)) (cs := RCut.cells) (sz := 3) (fun x => rfl) _ _ _ _ rfl _ (by simp only [World.alloc, Array.size_push])) ((RowOf.made (l := pt2) Prt.len z1 _ _ _ rfl _ rfl).after (Nat.le_refl _) (Below.alloc (Below.refl _ _) (Nat.le_refl _) _))).mono ?_
          rintro e z2 ⟨rfl, hb⟩
          have S16 := Lib.hid (below_then (Below.alloc (Below.alloc (Below.refl z1.heap.size z1) (Below.size (Below.refl z1.heap.size z1)) _) (Below.size (Below.alloc (Below.refl z1.heap.size z1) (Below.size (Below.refl z1.heap.size z1)) _)) _) hb)
          have X16 := Lib.hid (below_then X15.out S16.out)
          clear hb
          replace r4 := r4.after (Nat.le_refl _) S16.out
          go_wp2_with fail
          refine (flat_3 _ _ _ (RowOf.made (l := ([⟨7, 7, none, 0, []⟩] : List RCut)) (cs := RCut.cells) (sz := 3) (fun x => rfl) z2 _ _ _ rfl _ rfl)).mono ?_
          rintro e z3 ⟨rfl, hb⟩
          have S17 := Lib.hid (below_then (Below.alloc (Below.refl z2.heap.size z2) (Below.size (Below.refl z2.heap.size z2)) _) hb)
          have X17 := Lib.hid (below_then X16.out S17.out)
          clear hb
          have r3 := r4.after (Nat.le_refl _) S17.out
          clear r4
          obtain ⟨_, _, he0, hltr, ar0, ar1, ar2⟩ := Spl.at_ (k := 0) r3 rfl
          injection he0 with he0
          injection he0 with h1 h2 _
          subst h1 h2
          simp only [Nat.zero_mul, Nat.one_mul, Nat.add_zero, Nat.reduceMul, Nat.add_assoc, Nat.reduceAdd] at ar0 ar1 ar2
          clear r3
          have q0 : ∀ w : World, (binOp .neq 33 (.agg #[.int .i64 0, .int .i64 1, .string ⟨#[40, 99, 100, 41, 110]⟩]) (.agg #[.int .i64 0, .int .i64 1, .string ⟨#[40, 99, 100, 41, 110]⟩])).run Try.prog w = .ok (.bool false) w := fun _ => by kernel_rfl
          go_wp2_with fail
          go_region_held3 (fun w' => b4 < w'.heap.size ∧ w'.cell? ⟨b4, o4, none⟩ = some (.int .i64 0) ∧ w'.cell? ⟨b4, o4 + 1, none⟩ = some (.int .i64 1) ∧ w'.cell? ⟨b4, o4 + 2, none⟩ = some (.string ⟨#[40, 99, 100, 41, 110]⟩) ∧ Below z3.heap.size z3 w')
            (first
              | (go_keep; done)
              | (go_split_ands
                 refine ⟨?_, ?_, ?_, ?_, ?_⟩ <;> first
                  | (go_keep; done)
                  | assumption
                  | exact (Below.refl _ _).drew
                  | exact Nat.lt_of_lt_of_le (by assumption) hbS.size
                  | (rw [hbS.cell (by assumption)]; assumption)
                  | exact below_then (Below.refl _ _).drew hbS
                  | exact below_then (by assumption) hbS))
            (first | (go_at_call 25; refine (of_any _ _ _ _).mono ?_; rintro e w3 ⟨rfl, hbS⟩) | (go_at_call 18; refine (check_n _ _).mono ?_; rintro e w3 ⟨rfl, hbS⟩))
          rename_i hH
          obtain ⟨_, _, _, _, hbN⟩ := hH
          have X18 := Lib.hid (below_then X17.out hbN)
          clear hbN hltr ar0 ar1 ar2 q0
          go_wp2_with fail
          refine (whole_1 _ _ _ _ ((RowOf.made (l := dcs) Dc.len w3 _ _ _ rfl _ rfl).after (Nat.le_refl _) (Below.alloc (Below.refl _ _) (Nat.le_refl _) _)) (RowOf.made (l := ([⟨⟨#[117]⟩, 2, none, 0, []⟩] : List RDe)) (cs := RDe.cells) (sz := 3) (fun x => rfl) _ _ _ _ rfl _ (by simp only [World.alloc, Array.size_push]))).mono ?_
          rintro e v1 ⟨rfl, hb⟩
          have D1 := Lib.hid ((RowOf.made (l := dcs) Dc.len w3 _ _ _ rfl _ rfl).after (Nat.le_refl _) (below_then (Below.alloc (Below.refl _ _) (Nat.le_refl _) _) hb))
          have S19 := Lib.hid (below_then (Below.alloc (Below.alloc (Below.refl w3.heap.size w3) (Below.size (Below.refl w3.heap.size w3)) _) (Below.size (Below.alloc (Below.refl w3.heap.size w3) (Below.size (Below.refl w3.heap.size w3)) _)) _) hb)
          have X19 := Lib.hid (below_then X18.out S19.out)
          clear hb
          go_wp2_with fail
          refine (whole_2 _ _ _ _ (D1.out.after (Nat.le_refl _) (Below.alloc (Below.refl _ _) (Nat.le_refl _) _)) (RowOf.made (l := ([⟨⟨#[119]⟩, 3, none, 0, []⟩] : List RDe)) (cs := RDe.cells) (sz := 3) (fun x => rfl) v1 _ _ _ rfl _ rfl)).mono ?_
          rintro e v2 ⟨rfl, hb⟩
          have S20 := Lib.hid (below_then (Below.alloc (Below.refl v1.heap.size v1) (Below.size (Below.refl v1.heap.size v1)) _) hb)
          have X20 := Lib.hid (below_then X19.out S20.out)
          clear hb
          have D2 := Lib.hid (D1.out.after (Nat.le_refl _) S20.out)
          go_wp2_with fail
          refine (whole_3 _ _ _ _ (D2.out.after (Nat.le_refl _) (Below.alloc (Below.refl _ _) (Nat.le_refl _) _)) (RowOf.made (l := ([⟨⟨#[117]⟩, 3, none, 0, []⟩, ⟨⟨#[117]⟩, 3, none, 0, []⟩] : List RDe)) (cs := RDe.cells) (sz := 3) (fun x => rfl) v2 _ _ _ rfl _ rfl)).mono ?_
          rintro e v3 ⟨rfl, hb⟩
          have S21 := Lib.hid (below_then (Below.alloc (Below.refl v2.heap.size v2) (Below.size (Below.refl v2.heap.size v2)) _) hb)
          have X21 := Lib.hid (below_then X20.out S21.out)
          clear hb
          have D3 := Lib.hid (D2.out.after (Nat.le_refl _) S21.out)
          go_wp2_with fail
          refine (of_any _ _ _ _).mono ?_
          rintro e v4 ⟨rfl, hb⟩
          have S22 := Lib.hid (below_then (Below.refl v3.heap.size v3) hb)
          have X22 := Lib.hid (below_then X21.out S22.out)
          clear hb
          have D4 := Lib.hid (D3.out.after (Nat.le_refl _) S22.out)
          go_wp2_with fail
          refine (whole_4 v4.heap.size _ _ _ _ (D4.out.after (Nat.le_refl _) (Below.alloc (Below.alloc (Below.refl _ _) (Nat.le_refl _) _) (Below.size (Below.alloc (Below.refl _ _) (Nat.le_refl _) _)) _)) (RowOf.made (l := ([⟨⟨#[117]⟩, 3, some ⟨v4.heap.size, 0, none⟩, 1, spx⟩] : List RDe)) (cs := RDe.cells) (sz := 3) (fun x => rfl) _ _ _ _ rfl _ (by simp only [World.alloc, Array.size_push])) ((RowOf.made (l := spx) Spl.len v4 _ _ _ rfl _ rfl).after (Nat.le_refl _) (Below.alloc (Below.refl _ _) (Nat.le_refl _) _))).mono ?_
          rintro e v5 ⟨⟨b5, o5, c5, rfl, r5⟩, hb⟩
          have S23 := Lib.hid (below_then (Below.alloc (Below.alloc (Below.refl v4.heap.size v4) (Below.size (Below.refl v4.heap.size v4)) _) (Below.size (Below.alloc (Below.refl v4.heap.size v4) (Below.size (Below.refl v4.heap.size v4)) _)) _) hb)
          have X23 := Lib.hid (below_then X22.out S23.out)
          clear hb
          have D5 := D4.out.after (Nat.le_refl _) S23.out
          obtain ⟨_, _, he0, _, hc⟩ := r5 (by decide)
          injection he0 with he0
          injection he0 with h1 h2 _
          subst h1 h2
          have t0 := hc 0 _ rfl 0 _ rfl
          have t1 := hc 0 _ rfl 1 _ rfl
          have t2 := hc 0 _ rfl 2 _ rfl
          obtain ⟨_, _, he0, _, hc2⟩ := D5 (by decide)
          injection he0 with he0
          injection he0 with h1 h2 _
          subst h1 h2
          have t3 := hc2 0 _ rfl 1 _ rfl
          simp only [Nat.zero_mul, Nat.add_zero, Nat.zero_add] at t0 t1 t2 t3
          clear hc hc2
          have qd : ∀ w : World, (binOp .eql 43 (.agg #[.string ⟨#[117]⟩, .string ⟨#[97, 120, 98]⟩, .int .i64 3]) (.agg #[.string ⟨#[117]⟩, .string ⟨#[97, 120, 98]⟩, .int .i64 3])).run Try.prog w = .ok (.bool true) w := fun _ => by kernel_rfl
          go_wp2_with (go_at_call 14; refine (awake_any _).mono ?_; rintro e v6 ⟨rfl, hb6⟩)
          go_ret
          exact ⟨rfl, below_then X23.out hb6⟩
end Go.Proofs.Ytfflfbnnohlipaa
