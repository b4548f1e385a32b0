/- cmp.isNaN, cmp.Compare, cmp.Or at int; the order of splices that Sort hands to the library. -/
import Derived.Test.YtfflfbnnohlipaaAhead
import Derived.Test.YtfflfbnnohlipaaMem2
import Derived.Deep.RegionHeld3
namespace Go.Proofs.Ytfflfbnnohlipaa
open Go.RowKit
set_option linter.unusedVariables false
set_option linter.unusedSimpArgs false

theorem isNaN_any (x : Int) (w : World) : Calls Try.prog 51 #[.int .i64 x] w fun e w' => e = .returned (.bool false) ∧ w = w' := by
  go_enter Try.func51, Try.ntmps51
  go_wp2
  go_ret
  exact ⟨ret_bool (by simp), rfl⟩

def cmpV (x y : Int) : Int := if x < y then -1 else if y < x then 1 else 0

set_option maxHeartbeats 800000 in
theorem compare_any (x y : Int) (w : World) : Calls Try.prog 45 #[.int .i64 x, .int .i64 y] w fun e w' => e = .returned (.int .i64 (cmpV x y)) ∧ w = w' := by
  by_cases h1 : x < y
  · have HV := Lib.hid (show cmpV x y = -1 by simp [cmpV, h1])
    go_enter Try.func45, Try.ntmps45
    go_wp2_with (go_at_call 51; refine (isNaN_any _ _).mono ?_; rintro e w' ⟨rfl, rfl⟩)
    go_ret
    exact ⟨ret_int HV.out.symm, rfl⟩
  · by_cases h2 : y < x
    · have HV := Lib.hid (show cmpV x y = 1 by simp [cmpV, h1, h2])
      go_enter Try.func45, Try.ntmps45
      go_wp2_with (go_at_call 51; refine (isNaN_any _ _).mono ?_; rintro e w' ⟨rfl, rfl⟩)
      go_ret
      exact ⟨ret_int HV.out.symm, rfl⟩
    · have HV := Lib.hid (show cmpV x y = 0 by simp [cmpV, h1, h2])
      go_enter Try.func45, Try.ntmps45
      go_wp2_with (go_at_call 51; refine (isNaN_any _ _).mono ?_; rintro e w' ⟨rfl, rfl⟩)
      go_ret
      exact ⟨ret_int HV.out.symm, rfl⟩

/-- Of two numbers the first that is not nought. -/
def orV (x y : Int) : Int := if x = 0 then y else x

set_option maxHeartbeats 800000 in
theorem or_any (b : Nat) (x y : Int) (w : World) (h0 : w.cell? ⟨b, 0, none⟩ = some (.int .i64 x)) (h1 : w.cell? ⟨b, 1, none⟩ = some (.int .i64 y)) :
    Calls Try.prog 44 #[.slice (some ⟨b, 0, none⟩) 2 2] w fun e w' => e = .returned (.int .i64 (orV x y)) ∧ w = w' := by
  go_enter Try.func44, Try.ntmps44
  go_wp2_with fail
  go_loop [8] (fun i => (i = .int .i64 0) ∨ (i = .int .i64 1 ∧ x = 0) ∨ (i = .int .i64 2 ∧ x = 0 ∧ y = 0)) (fun i => 2 - (intOf i).toNat)
  case atStart => exact .inl rfl
  case round =>
    rcases hrel with rfl | ⟨rfl, rfl⟩ | ⟨rfl, rfl, rfl⟩
    · by_cases hx : x = 0
      · subst hx
        go_wp2_with fail
        go_round
        case rel => first | exact .inr (.inl ⟨rfl, rfl⟩) | simp
        case measure => simp [intOf]
      · have HV := Lib.hid (show orV x y = x by simp [orV, hx])
        have hx2 : (x == 0) = false := by simpa using hx
        go_wp2_with fail
        go_ret
        exact ⟨ret_int HV.out.symm, rfl⟩
    · by_cases hy : y = 0
      · subst hy
        go_wp2_with fail
        go_round
        case rel => first | exact .inr (.inr ⟨rfl, rfl, rfl⟩) | simp
        case measure => simp [intOf]
      · have HV := Lib.hid (show orV 0 y = y by simp [orV])
        have hy2 : (y == 0) = false := by simpa using hy
        go_wp2_with fail
        go_ret
        exact ⟨ret_int HV.out.symm, rfl⟩
    · go_wp2_with fail
      go_ret
      exact ⟨ret_int (by simp [orV]), rfl⟩

/-- What Sort's order says of two splices. -/
def splV (x y : Spl) : Int := orV (cmpV x.frm y.frm) (cmpV x.to y.to)
theorem splV_lt (x y : Spl) : splV x y < 0 ↔ aheadV x y = true := by
  unfold splV orV cmpV aheadV
  simp only [Bool.or_eq_true, Bool.and_eq_true, decide_eq_true_eq]
  repeat' split
  all_goals omega

set_option maxRecDepth 1000000 in
set_option maxHeartbeats 1600000 in
theorem order_any (x y : Spl) (w : World) :
    Calls Try.prog 43 #[.agg #[.int .i64 x.frm, .int .i64 x.to, .string x.text], .agg #[.int .i64 y.frm, .int .i64 y.to, .string y.text]] w fun e w' => e = .returned (.int .i64 (splV x y)) ∧ Below w.heap.size w w' := by
  have HS := Lib.hid (show splV x y = orV (cmpV x.frm y.frm) (cmpV x.to y.to) from rfl)
  obtain ⟨xf, xt, xx⟩ := x
  obtain ⟨yf, yt, yx⟩ := y
  dsimp only at HS ⊢
  go_enter Try.func43, Try.ntmps43
  go_wp2_with fail
  generalize hW : World.alloc _ _ = w1
  have hb1 : Below w.heap.size w w1 := by rw [← hW]; exact ((Below.refl _ _).alloc (Nat.le_refl _) _).alloc (by simp) _
  have hz : w1.heap.size = w.heap.size + 2 := by rw [← hW]; simp
  have c1 : w1.cell? ⟨w.heap.size, 0, none⟩ = some (.int .i64 xf) := by rw [← hW]; rw [World.cell?_alloc_lt _ _ _ (by simp), World.cell?_alloc_at _ _ _ _ rfl]; rfl
  have c2 : w1.cell? ⟨w.heap.size, 1, none⟩ = some (.int .i64 xt) := by rw [← hW]; rw [World.cell?_alloc_lt _ _ _ (by simp), World.cell?_alloc_at _ _ _ _ rfl]; rfl
  have d1 : w1.cell? ⟨w.heap.size + 1, 0, none⟩ = some (.int .i64 yf) := by rw [← hW]; rw [World.cell?_alloc_at _ _ _ _ (by simp)]; rfl
  have d2 : w1.cell? ⟨w.heap.size + 1, 1, none⟩ = some (.int .i64 yt) := by rw [← hW]; rw [World.cell?_alloc_at _ _ _ _ (by simp)]; rfl
  have HB := Lib.hid hb1
  clear hb1 hW
  generalize hA : w.heap.size = A at *
  go_region_held3 (fun w' => w'.cell? ⟨A, 0, none⟩ = some (.int .i64 xf) ∧ w'.cell? ⟨A, 1, none⟩ = some (.int .i64 xt) ∧ w'.cell? ⟨A + 1, 0, none⟩ = some (.int .i64 yf) ∧ w'.cell? ⟨A + 1, 1, none⟩ = some (.int .i64 yt))
    (first | go_keep)
    (first | (go_at_call 45; refine (compare_any _ _ _).mono ?_; rintro e w3 ⟨rfl, rfl⟩) | (go_at_call 44; refine (or_any _ (cmpV xf yf) (cmpV xt yt) _ (by (first | rw [World.cell?_alloc_at _ _ _ _ (by simp)] | rw [World.cell?_alloc_at _ _ _ _ (by simp [hz])] | go_simp)) (by (first | rw [World.cell?_alloc_at _ _ _ _ (by simp)] | rw [World.cell?_alloc_at _ _ _ _ (by simp [hz])] | go_simp))).mono ?_; rintro e w3 ⟨rfl, rfl⟩))
  go_wp2
  go_ret
  exact ⟨ret_int HS.out.symm, by rw [hA]; exact (HB.out.alloc (by omega) _).drew⟩
end Go.Proofs.Ytfflfbnnohlipaa
