/- edits.Check. -/
import Derived.Test.YtfflfbnnohlipaaBase
namespace Go.Proofs.Ytfflfbnnohlipaa
open Go.RowKit

def fitsFrom (n : Int) : Int → List Spl → Bool
  | _, [] => true
  | was, x :: r => if x.frm < was ∨ x.to < x.frm ∨ n < x.to then false else fitsFrom n x.to r

def checkV (n : Int) (l : List Spl) : Int := if fitsFrom n 0 l = true ∧ 0 ≤ n then 0 else 2

theorem checkV_bad {n : Int} {l : List Spl} (h : fitsFrom n 0 l = false) : checkV n l = 2 := by simp [checkV, h]
set_option maxHeartbeats 800000 in
theorem check_any (n : Int) (A : Option Addr) (c : Nat) (l : List Spl) (w : World) (hl : l.length ≤ 1000000) (hr : Row w w.heap.size A l) :
    Calls Try.prog 18 #[.int .i64 n, .slice A l.length c] w fun e w' => e = .returned (.int .i64 (checkV n l)) ∧ Below w.heap.size w w' := by
  go_enter Try.func18, Try.ntmps18
  go_wp2_with fail
  go_loopw [5, 10] (fun was i wr => ∃ (k : Nat) (u : Int), k ≤ l.length ∧ i = .int .i64 k ∧ was = .int .i64 u ∧ fitsFrom n 0 l = fitsFrom n u (l.drop k) ∧ Below w.heap.size w wr) (fun _ i _ => l.length - (intOf i).toNat)
  case atStart => exact ⟨0, 0, Nat.zero_le _, rfl, rfl, rfl, Below.refl _ _⟩
  case round =>
    obtain ⟨k, u, hk, rfl, rfl, hf, hb⟩ := hrel
    by_cases hlt : k < l.length
    · obtain ⟨x, hx⟩ := get_some hlt
      obtain ⟨b, off, rfl, hbl, h1, h2, h3⟩ := Spl.at_ (hr.below hb (Nat.le_refl _)) hx
      rw [drop_cons hx, fitsFrom] at hf
      have HF := Lib.hid hf
      have HB : Below w.heap.size w (wr.alloc (.cells #[.int .i64 x.frm, .int .i64 x.to, .string x.text] 33)) := hb.alloc hb.size _
      clear hf hx
      go_wp2
      all_goals first
        | (go_ret; exact ⟨ret_int (checkV_bad (by rw [HF.out, if_pos (by omega)])).symm, HB⟩)
        | (go_roundw
           case rel => exact ⟨k + 1, x.to, by omega, by go_num, rfl, by rw [HF.out, if_neg (by omega)], HB⟩
           case measure => simp [intOf]; omega)
    · obtain rfl : k = l.length := by omega
      rw [List.drop_length, fitsFrom] at hf
      have HF := Lib.hid hf
      clear hf
      by_cases h0 : n < 0
      · go_wp2
        go_ret
        exact ⟨ret_int (by rw [checkV, if_neg (by omega)]), hb⟩
      · go_wp2
        go_ret
        exact ⟨ret_int (by rw [checkV, if_pos ⟨HF.out, by omega⟩]), hb⟩
end Go.Proofs.Ytfflfbnnohlipaa
