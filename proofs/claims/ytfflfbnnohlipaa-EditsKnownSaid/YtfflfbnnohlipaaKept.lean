/- emendref07.kept, emendref07.Fits. -/
import Derived.Test.YtfflfbnnohlipaaCheck
namespace Go.Proofs.Ytfflfbnnohlipaa
open Go.RowKit

/-- Is the byte at a place kept? -/
def keptV (l : List Spl) (at_ : Int) : Bool := l.all fun x => !(decide (x.frm ≤ at_) && decide (at_ < x.to))

theorem keptV_no {l : List Spl} {k : Nat} {x : Spl} {p : Int} (hx : l[k]? = some x) (h1 : x.frm ≤ p) (h2 : p < x.to) : keptV l p = false := by
  have hm := List.mem_of_getElem? hx
  rw [keptV, List.all_eq_false]
  exact ⟨x, hm, by simp [h1, h2]⟩

set_option maxHeartbeats 800000 in
theorem kept_any (A : Option Addr) (c : Nat) (l : List Spl) (p : Int) (w : World) (hl : l.length ≤ 1000000) (hr : Row w w.heap.size A l) :
    Calls Try.prog 32 #[.slice A l.length c, .int .i64 p] w fun e w' => e = .returned (.bool (keptV l p)) ∧ w = w' := by
  go_enter Try.func32, Try.ntmps32
  go_wp2_with fail
  go_loop [5] (fun i => ∃ (k : Nat), k ≤ l.length ∧ i = .int .i64 k ∧ keptV (l.take k) p = true) (fun i => l.length - (intOf i).toNat)
  case atStart => exact ⟨0, Nat.zero_le _, rfl, rfl⟩
  case round =>
    obtain ⟨k, hk, rfl, hf⟩ := hrel
    by_cases hlt : k < l.length
    · obtain ⟨x, hx⟩ := get_some hlt
      obtain ⟨b, off, rfl, hbl, h1, h2, h3⟩ := Spl.at_ hr hx
      have hts := take_snoc hx
      have HF := Lib.hid hf
      have HX := Lib.hid hx
      have HT := Lib.hid hts
      clear hf hx hr hts
      by_cases ha : x.frm ≤ p
      · by_cases hb : p < x.to
        · go_wp2
          go_ret
          exact ⟨ret_bool (keptV_no HX.out ha hb).symm, rfl⟩
        · go_wp2
          go_round
          case rel => exact ⟨k + 1, by omega, by go_num, by rw [HT.out]; simp only [keptV, List.all_append] at *; rw [HF.out]; simp [hb]⟩
          case measure => simp [intOf]; omega
      · go_wp2
        go_round
        case rel => exact ⟨k + 1, by omega, by go_num, by rw [HT.out]; simp only [keptV, List.all_append] at *; rw [HF.out]; simp [ha]⟩
        case measure => simp [intOf]; omega
    · obtain rfl : k = l.length := by omega
      rw [List.take_length] at hf
      have HF := Lib.hid hf
      clear hf
      go_wp2
      go_ret
      exact ⟨ret_bool HF.out.symm, rfl⟩

theorem dr_dr (w : World) (a b : Nat) : ∃ q, (w.drewN a).drewN b = w.drewN q := ⟨a + b, World.drewN_drewN _ _ _⟩

/-- Where the splice ahead of number k ends. -/
def prevTo (l : List Spl) (k : Nat) : Int := if k = 0 then 0 else (l[k - 1]?.map Spl.to).getD 0

def fitsV (n : Int) (l : List Spl) : Bool := decide (0 ≤ n) && fitsFrom n 0 l
theorem fitsV_no {n : Int} {l : List Spl} (h : fitsFrom n 0 l = false) : fitsV n l = false := by simp [fitsV, h]
theorem fitsV_neg {n : Int} {l : List Spl} (h : n < 0) : fitsV n l = false := by simp [fitsV]; omega
theorem fitsV_yes {n : Int} {l : List Spl} (h : ¬ n < 0) (h' : fitsFrom n 0 l = true) : fitsV n l = true := by simp [fitsV, h']; omega

set_option maxHeartbeats 1600000 in
theorem fits_any (n : Int) (A : Option Addr) (c : Nat) (l : List Spl) (w : World) (hl : l.length ≤ 1000000) (hr : Row w w.heap.size A l) :
    Calls Try.prog 30 #[.int .i64 n, .slice A l.length c] w fun e w' => e = .returned (.bool (fitsV n l)) ∧ ∃ q, w' = w.drewN q := by
  by_cases hn : n < 0
  · go_enter Try.func30, Try.ntmps30
    go_wp2
    go_ret
    exact ⟨ret_bool (fitsV_neg hn).symm, 0, rfl⟩
  · go_enter Try.func30, Try.ntmps30
    go_wp2_with fail
    go_loopw [5] (fun i wr => ∃ (k : Nat), k ≤ l.length ∧ i = .int .i64 k ∧ fitsFrom n 0 l = fitsFrom n (prevTo l k) (l.drop k) ∧ 0 ≤ prevTo l k ∧ ∃ q, wr = w.drewN q) (fun i _ => l.length - (intOf i).toNat)
    case atStart => exact ⟨0, Nat.zero_le _, rfl, rfl, by simp [prevTo], 0, rfl⟩
    case round =>
      obtain ⟨k, hk, rfl, hf, hp, q, rfl⟩ := hrel
      by_cases hlt : k < l.length
      · obtain ⟨x, hx⟩ := get_some hlt
        obtain ⟨b, off, rfl, hbl, h1, h2, h3⟩ := Spl.at_ hr hx
        rw [drop_cons hx, fitsFrom] at hf
        have hpn : prevTo l (k + 1) = x.to := by simp [prevTo, hx]
        have HF := Lib.hid hf
        have HP := Lib.hid hpn
        clear hf hx hpn
        have hno : x.frm < prevTo l k ∨ x.to < x.frm ∨ n < x.to → fitsV n l = false := fun h => fitsV_no (by rw [HF.out, if_pos h])
        have HNo := Lib.hid hno
        have hk0 : (0 : Int) ≤ (k : Int) := by omega
        have hk1 : (k : Int) < (l.length : Int) := by omega
        clear hno
        by_cases c1 : x.frm < 0
        · have d1 : decide (x.frm < 0) = true := by simpa using c1
          go_wp2
          go_quiet (fail)
          go_wp2
          go_ret
          exact ⟨ret_bool (HNo.out (.inl (by omega))).symm, dr_dr _ _ _⟩
        · have d1 : decide (x.frm < 0) = false := by simpa using c1
          by_cases c2 : x.to < x.frm
          · have d2 : decide (x.to < x.frm) = true := by simpa using c2
            go_wp2
            go_quiet (fail)
            go_wp2
            go_ret
            exact ⟨ret_bool (HNo.out (.inr (.inl c2))).symm, dr_dr _ _ _⟩
          · have d2 : decide (x.to < x.frm) = false := by simpa using c2
            by_cases c3 : n < x.to
            · have d3 : decide (n < x.to) = true := by simpa using c3
              go_wp2
              go_quiet (fail)
              go_wp2
              go_ret
              exact ⟨ret_bool (HNo.out (.inr (.inr c3))).symm, dr_dr _ _ _⟩
            · have d3 : decide (n < x.to) = false := by simpa using c3
              by_cases c4 : k = 0
              · have d4 : decide (0 < k) = false := by simp; omega
                have HK := Lib.hid c4
                have hz : prevTo l k = 0 := by simp [prevTo, c4]
                have HZ := Lib.hid hz
                clear c4 hz
                go_wp2
                go_quiet (fail)
                go_wp2
                go_roundw
                case rel => exact ⟨k + 1, by omega, by go_num, by rw [HF.out, if_neg (by rw [HZ.out]; omega), HP.out], by rw [HP.out]; omega, _, rfl⟩
                case measure => simp [intOf]; omega
              · have d4 : decide (0 < k) = true := by simp; omega
                obtain ⟨y, hy⟩ := get_some (l := l) (k := k - 1) (by omega)
                obtain ⟨b', off', he, _, g1, g2, g3⟩ := Spl.at_ hr hy
                simp only [Option.some.injEq, Addr.mk.injEq] at he
                obtain ⟨rfl, rfl, _⟩ := he
                have hpy : prevTo l k = y.to := by simp [prevTo, c4, hy]
                have HY := Lib.hid hpy
                have hk2 : (0 : Int) ≤ (k : Int) - 1 := by omega
                have hk3 : (k : Int) - 1 < (l.length : Int) := by omega
                have ht : ((k : Int) - 1).toNat = k - 1 := by omega
                clear hy hpy c4
                by_cases c5 : x.frm < y.to
                · have d5 : decide (x.frm < y.to) = true := by simpa using c5
                  go_wp2
                  go_quiet (fail)
                  go_wp2
                  go_ret
                  exact ⟨ret_bool (HNo.out (.inl (by rw [HY.out]; omega))).symm, dr_dr _ _ _⟩
                · have d5 : decide (x.frm < y.to) = false := by simpa using c5
                  go_wp2
                  go_quiet (fail)
                  go_wp2
                  go_roundw
                  case rel => exact ⟨k + 1, by omega, by go_num, by rw [HF.out, if_neg (by rw [HY.out]; omega), HP.out], by rw [HP.out]; omega, _, rfl⟩
                  case measure => simp [intOf]; omega
      · obtain rfl : k = l.length := by omega
        rw [List.drop_length, fitsFrom] at hf
        have HF := Lib.hid hf
        clear hf
        go_wp2
        go_ret
        exact ⟨ret_bool (fitsV_yes (by omega) HF.out).symm, _, rfl⟩
end Go.Proofs.Ytfflfbnnohlipaa
