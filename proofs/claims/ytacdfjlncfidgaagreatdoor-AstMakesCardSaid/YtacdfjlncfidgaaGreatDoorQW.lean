/- A part of what the claim leans on. -/
import Derived.Test.YtacdfjlncfidgaaGreatDoorQG
import Derived.Test.YtacdfjlncfidgaaGreatDoorQV
namespace Go.Proofs.YtacdfjlncfidgaaGreatDoor
open Go.RowKit
set_option linter.unusedVariables false
set_option linter.unusedSimpArgs false
theorem parseM_any (M : Nat) (l : List UInt8) : ∀ acc, (∀ c ∈ l, isDig c = true) → Lib.parseUintM M acc l = .ok (valD acc l) ∨ Lib.parseUintM M acc l = .range := by
 induction l with
 | nil => intro acc _; exact .inl rfl
 | cons c r ih =>
  intro acc hd
  have h1 : 48 ≤ c.toNat ∧ c.toNat ≤ 57 := by have := hd c (List.mem_cons_self ..); simpa [isDig] using this
  have h3 : valD acc (c :: r) = valD (acc * 10 + (c.toNat - 48)) r := rfl
  rw [h3, Lib.parseUintM, if_pos h1]
  split
  · exact .inr rfl
  · split
    · exact .inr rfl
    · exact ih _ (fun c hc => hd c (List.mem_cons_of_mem _ hc))
theorem natV_dig {l : List UInt8} (h : natV l = true) : l ≠ [] ∧ (∀ c ∈ l, isDig c = true) ∧ (l.length = 1 ∨ l[0]? ≠ some 48) := by
 unfold natV at h
 simp only [Bool.and_eq_true, Bool.or_eq_true, decide_eq_true_eq] at h
 obtain ⟨⟨h1, h2⟩, h3⟩ := h
 refine ⟨by intro e; rw [e] at h1; simp at h1, fun c hc => ?_, h3⟩
 have : l.takeWhile isDig = l := by
  have hp := List.takeWhile_prefix (p := isDig) (l := l)
  exact hp.eq_of_length h2
 have hall : ∀ (l : List UInt8), ∀ c ∈ l.takeWhile isDig, isDig c = true := by
  intro l
  induction l with
  | nil => intro c hc; cases hc
  | cons a t ih =>
   intro c hc
   rw [List.takeWhile_cons] at hc
   by_cases ha : isDig a = true
   · rw [if_pos ha] at hc
     rcases List.mem_cons.mp hc with rfl | hc
     · exact ha
     · exact ih c hc
   · rw [if_neg ha] at hc; cases hc
 rw [← this] at hc
 exact hall l c hc
def headR : Lib.NumEnd Nat → Lib.NumEnd Int
 | .range => .range
 | .ok u => if 9223372036854775808 ≤ u then .range else .ok (u : Int)
 | _ => Lib.parseIntB 64 []
theorem parse_head {l : List UInt8} (hne : l ≠ []) (hd : ∀ c ∈ l, isDig c = true) {r : Lib.NumEnd Nat} (hv : Lib.parseUintB 64 l = r) :
  Lib.parseIntB 64 l = headR r := by
 cases l with
 | nil => exact absurd rfl hne
 | cons c t =>
  have h1 : 48 ≤ c.toNat ∧ c.toNat ≤ 57 := by have := hd c (List.mem_cons_self ..); simpa [isDig] using this
  unfold Lib.parseIntB
  simp only
  rw [if_neg (by omega), hv]
  have hneg : ¬ c.toNat = 45 := by omega
  rcases r with u | _ | _
  · simp [hneg, headR]
  · rfl
  · rfl
theorem parse_small {l : List UInt8} (h : natV l = true) (hv : valD 0 l ≤ 9223372036854775807) : Lib.parseIntB 64 l = .ok (valD 0 l : Nat) := by
 obtain ⟨hne, hd, _⟩ := natV_dig h
 have h1 : Lib.parseUintB 64 l = .ok (valD 0 l) := by
  unfold Lib.parseUintB
  rw [if_neg hne]
  exact parseM_val (2 ^ 64 - 1) (by decide) l 0 hd (by omega)
 rw [parse_head hne hd h1]
 show (if 9223372036854775808 ≤ valD 0 l then Lib.NumEnd.range else Lib.NumEnd.ok ((valD 0 l : Nat) : Int)) = _
 rw [if_neg (by omega)]
theorem parse_great {l : List UInt8} (h : natV l = true) (hv : 9223372036854775807 < valD 0 l) : Lib.parseIntB 64 l = .range := by
 obtain ⟨hne, hd, _⟩ := natV_dig h
 have h1 : Lib.parseUintB 64 l = .ok (valD 0 l) ∨ Lib.parseUintB 64 l = .range := by
  unfold Lib.parseUintB
  rw [if_neg hne]
  exact parseM_any (2 ^ 64 - 1) l 0 hd
 rcases h1 with h1 | h1
 · rw [parse_head hne hd h1]
   show (if 9223372036854775808 ≤ valD 0 l then Lib.NumEnd.range else Lib.NumEnd.ok ((valD 0 l : Nat) : Int)) = _
   rw [if_pos (by omega)]
 · rw [parse_head hne hd h1]
   rfl
theorem int_ok (s : ByteArray) (hs : s.size ≤ 1000000) (hn : natV s.data.toList = true) (hv : valD 0 s.data.toList ≤ 9223372036854775807) (w : World) :
  Calls Tryz.prog 172 #[.string s] w fun e w' => e = .returned (.tuple #[.int .i64 (valD 0 s.data.toList : Nat), .int .i64 0]) ∧ Below w.heap.size w w' :=
 int_nat s _ (by omega) hn (parse_small hn hv) w
theorem int_long (s : ByteArray) (hs : s.size ≤ 1000000) (hn : natV s.data.toList = true) (hv : 9223372036854775807 < valD 0 s.data.toList) (w : World) (hG : Glob2 w) :
  Calls Tryz.prog 172 #[.string s] w fun e w' => e = .returned (.tuple #[.int .i64 0, .int .i64 3]) ∧ Below w.heap.size w w' := by
 obtain ⟨ev, h1, h2⟩ := hG.err
 have HN := Lib.hid (natural_any s w (by omega))
 have HP := Lib.hid (Tryz.strconv_ParseInt_10_at64_range s (by omega) (parse_great hn hv) ev w h1 h2)
 rw [hn] at HN
 clear hn hv h1 h2 hG
 go_enter Tryz.func172, Tryz.ntmps172
 go_wp2_with (first | (go_at_call 182; refine HN.out.mono ?_; rintro e w' ⟨rfl, rfl⟩) | (go_at_call 183; refine HP.out.mono ?_; rintro e w1 ⟨N, rfl, _, _, hw1⟩))
 go_ret2
 exact ⟨rfl, hw1⟩
theorem valD_lt (l : List UInt8) : ∀ acc, (∀ c ∈ l, isDig c = true) → valD acc l < (acc + 1) * 10 ^ l.length := by
 induction l with
 | nil => intro acc _; show acc < (acc + 1) * 10 ^ 0; omega
 | cons c r ih =>
  intro acc hd
  have h1 : 48 ≤ c.toNat ∧ c.toNat ≤ 57 := by have := hd c (List.mem_cons_self ..); simpa [isDig] using this
  have h3 : valD acc (c :: r) = valD (acc * 10 + (c.toNat - 48)) r := rfl
  rw [h3]
  refine Nat.lt_of_lt_of_le (ih _ (fun c hc => hd c (List.mem_cons_of_mem _ hc))) ?_
  rw [List.length_cons, Nat.pow_succ, Nat.mul_comm (10 ^ r.length) 10, ← Nat.mul_assoc]
  exact Nat.mul_le_mul_right _ (by omega)
theorem valD_999 (l : List UInt8) (hd : ∀ c ∈ l, isDig c = true) (hl : l.length ≤ 3) : valD 0 l ≤ 999 := by
 have h := valD_lt l 0 hd
 have h2 : (10 : Nat) ^ l.length ≤ 10 ^ 3 := Nat.pow_le_pow_right (by decide) hl
 omega
theorem u8_ne {c d : UInt8} (h : c ≠ d) : ¬ (c.toNat : Int) = (d.toNat : Int) := fun e => h (UInt8.toNat_inj.1 (by omega))
end Go.Proofs.YtacdfjlncfidgaaGreatDoor
