/- The law NumBack: a number's text read again is the number; a number is another one times the quotient and what is left. -/
import Derived.Test.YtclbmmiedihepaaGreatDoorQB
import Derived.Lib.ItoaLen
namespace Go.Proofs.YtclbmmiedihepaaGreatDoor
open Go.RowKit
set_option linter.unusedVariables false
set_option linter.unusedSimpArgs false
/-- What digits read as. -/
def valD (acc : Nat) (l : List UInt8) : Nat := l.foldl (fun a c => a * 10 + (c.toNat - 48)) acc
theorem valD_le (l : List UInt8) : ∀ acc, acc ≤ valD acc l := by
 induction l with
 | nil => intro acc; exact Nat.le_refl _
 | cons c r ih => intro acc; have := ih (acc * 10 + (c.toNat - 48)); simp only [valD, List.foldl_cons] at this ⊢; omega
theorem parseM_val (M : Nat) (hM : M < 18446744073709551616) (l : List UInt8) : ∀ acc, (∀ c ∈ l, isDig c = true) → valD acc l ≤ M → Lib.parseUintM M acc l = .ok (valD acc l) := by
 induction l with
 | nil => intro acc _ _; rfl
 | cons c r ih =>
  intro acc hd hv
  have h1 : 48 ≤ c.toNat ∧ c.toNat ≤ 57 := by have := hd c (List.mem_cons_self ..); simpa [isDig] using this
  have h2 := valD_le r (acc * 10 + (c.toNat - 48))
  have h3 : valD acc (c :: r) = valD (acc * 10 + (c.toNat - 48)) r := rfl
  rw [h3] at hv ⊢
  rw [Lib.parseUintM, if_pos h1, if_neg (by omega), if_neg (by omega)]
  exact ih _ (fun c hc => hd c (List.mem_cons_of_mem _ hc)) hv
theorem digN_all (l : List UInt8) (h : ∀ c ∈ l, isDig c = true) : digN l = l.length := digN_at (Nat.le_refl _) (fun c hc => h c (List.mem_of_mem_take hc)) (Or.inl rfl)

theorem int_nat (s : ByteArray) (v : Int) (hs : s.size ≤ 9223372036854775806) (hn : natV s.data.toList = true) (hp : Lib.parseIntB 64 s.data.toList = .ok v) (w : World) :
  Calls Tryz.prog 55 #[.string s] w fun e w' => e = .returned (.tuple #[.int .i64 v, .int .i64 0]) ∧ Below w.heap.size w w' := by
 have HN := Lib.hid (natural_any s w (by omega))
 rw [hn] at HN
 have HP := Lib.hid (Tryz.strconv_ParseInt_10_at64_ok s hs v hp w)
 clear hn hp
 go_enter Tryz.func55, Tryz.ntmps55
 go_wp2_with (first | (go_at_call 79; refine HN.out.mono ?_; rintro e w' ⟨rfl, rfl⟩) | (go_at_call 80; refine HP.out.mono ?_; rintro e w1 ⟨rfl, hw1⟩))
 go_ret2
 refine ⟨rfl, ?_⟩
 rcases hw1 with rfl | ⟨t, rfl⟩
 · exact Below.refl _ _
 · exact Go.Joins.below_bytesWorld _ _ _ _ (Nat.le_refl _)
theorem int_not (s : ByteArray) (hs : s.size ≤ 9223372036854775806) (hn : natV s.data.toList = false) (w : World) :
  Calls Tryz.prog 55 #[.string s] w fun e w' => e = .returned (.tuple #[.int .i64 0, .int .i64 4]) ∧ w = w' := by
 have HN := Lib.hid (natural_any s w (by omega))
 rw [hn] at HN
 clear hn
 go_enter Tryz.func55, Tryz.ntmps55
 go_wp2_with (go_at_call 79; refine HN.out.mono ?_; rintro e w' ⟨rfl, rfl⟩)
 go_ret2
 exact ⟨rfl, rfl⟩
end Go.Proofs.YtclbmmiedihepaaGreatDoor
