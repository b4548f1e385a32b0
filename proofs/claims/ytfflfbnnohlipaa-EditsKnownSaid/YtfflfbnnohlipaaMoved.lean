/- emendref07.Moved, edits.Moved. -/
import Derived.Test.YtfflfbnnohlipaaShift
namespace Go.Proofs.Ytfflfbnnohlipaa
open Go.RowKit

def goodAt (l : List Spl) (p : Int) : Bool := decide (0 ≤ p) && decide (p ≤ 4611686018427387904) && fitsV (maxTo l 0) l && keptV l p
def movedI (l : List Spl) (p : Int) : Int := if goodAt l p then p + shiftV l p else 0

def RetMoved (l : List Spl) (p : Int) (e : Ending) : Prop := e = .returned (.tuple #[.int .i64 (movedI l p), .bool (goodAt l p)])
theorem ret_bad {l : List Spl} {p : Int} (h : goodAt l p = false) : RetMoved l p (.returned (.tuple #[.int .i64 0, .bool false])) := by
  simp [RetMoved, movedI, h]
theorem ret_good {l : List Spl} {p q : Int} (h : goodAt l p = true) (hq : q = p + shiftV l p) : RetMoved l p (.returned (.tuple #[.int .i64 q, .bool true])) := by
  simp [RetMoved, movedI, h, hq]
theorem bad_range {l : List Spl} {p : Int} (h : p < 0 ∨ 4611686018427387904 < p) : goodAt l p = false := by
  simp [goodAt]; omega
theorem bad_fits {l : List Spl} {p : Int} (h : fitsV (maxTo l 0) l = false) : goodAt l p = false := by
  simp [goodAt, h]
theorem bad_kept {l : List Spl} {p : Int} (h : keptV l p = false) : goodAt l p = false := by
  simp [goodAt, h]
theorem good_all {l : List Spl} {p : Int} (h : 0 ≤ p) (h2 : p ≤ 4611686018427387904) (h3 : fitsV (maxTo l 0) l = true) (h4 : keptV l p = true) : goodAt l p = true := by
  simp [goodAt, h3, h4, h, h2]

set_option maxHeartbeats 1600000 in
theorem refMoved_any (A : Option Addr) (c : Nat) (l : List Spl) (p : Int) (w : World) (hl : l.length ≤ 30) (hs : Small l) (hr : Row w w.heap.size A l) :
    Calls Try.prog 13 #[.slice A l.length c, .int .i64 p] w fun e w' => RetMoved l p e ∧ ∃ q, w' = w.drewN q := by
  have HS := Lib.hid hs
  clear hs
  go_enter Try.func13, Try.ntmps13
  go_wp2_with fail
  go_loop [6, 7] (fun m i => ∃ (k : Nat) (u : Int), k ≤ l.length ∧ i = .int .i64 k ∧ m = .int .i64 u ∧ maxTo l 0 = maxTo (l.drop k) u) (fun _ i => l.length - (intOf i).toNat)
  case atStart => exact ⟨0, 0, Nat.zero_le _, rfl, rfl, rfl⟩
  case round =>
    obtain ⟨k, u, hk, rfl, rfl, hf⟩ := hrel
    by_cases hlt : k < l.length
    · obtain ⟨x, hx⟩ := get_some hlt
      obtain ⟨b, off, rfl, hbl, h1, h2, h3⟩ := Spl.at_ hr hx
      rw [drop_cons hx, maxTo] at hf
      have HF := Lib.hid hf
      have HX := Lib.hid hx
      clear hf hx
      go_wp2
      go_round
      case rel => exact ⟨k + 1, _, by omega, by go_num, rfl, HF.out⟩
      case measure => simp [intOf]; omega
    · obtain rfl : k = l.length := by omega
      rw [List.drop_length, maxTo] at hf
      subst hf
      by_cases hp : p < 0
      · go_wp2
        go_ret2
        exact ⟨ret_bad (bad_range (.inl hp)), 0, rfl⟩
      · by_cases hp2 : 4611686018427387904 < p
        · go_wp2
          go_ret2
          exact ⟨ret_bad (bad_range (.inr hp2)), 0, rfl⟩
        · cases hfv : fitsV (maxTo l 0) l
          · have hc := fits_any (maxTo l 0) A c l w (by omega) hr
            rw [hfv] at hc
            have HC := Lib.hid hc
            have HV := Lib.hid hfv
            clear hfv hc
            go_wp2_with (go_at_call 30; refine HC.out.mono ?_; rintro e w' ⟨rfl, q, rfl⟩)
            go_ret2
            exact ⟨ret_bad (bad_fits HV.out), _, rfl⟩
          · cases hkv : keptV l p
            · have hc := fits_any (maxTo l 0) A c l w (by omega) hr
              rw [hfv] at hc
              have hc2 := fun q => kept_any A c l p (w.drewN q) (by omega) hr
              rw [hkv] at hc2
              have HC := Lib.hid hc
              have HC2 := Lib.hid hc2
              have HV := Lib.hid hfv
              have HK := Lib.hid hkv
              clear hfv hc hkv hc2
              go_wp2_with (first | (go_at_call 30; refine HC.out.mono ?_; rintro e w' ⟨rfl, q, rfl⟩) | (go_at_call 32; refine (HC2.out _).mono ?_; rintro e w' ⟨rfl, rfl⟩))
              go_ret2
              exact ⟨ret_bad (bad_kept HK.out), _, rfl⟩
            · have hc := fits_any (maxTo l 0) A c l w (by omega) hr
              rw [hfv] at hc
              have hc2 := fun q => kept_any A c l p (w.drewN q) (by omega) hr
              rw [hkv] at hc2
              have HC := Lib.hid hc
              have HC2 := Lib.hid hc2
              have hgd := good_all (by omega) (by omega) hfv hkv
              have hff : fitsFrom (maxTo l 0) 0 l = true := by simp [fitsV] at hfv; exact hfv.2
              have HG := Lib.hid hgd
              have HFF := Lib.hid hff
              clear hfv hc hkv hc2 hgd hff
              go_wp2_with (first | (go_at_call 30; refine HC.out.mono ?_; rintro e w' ⟨rfl, q, rfl⟩) | (go_at_call 32; refine (HC2.out _).mono ?_; rintro e w' ⟨rfl, rfl⟩))
              go_loopw [8, 9] (fun t i wr => ∃ (k : Nat), k ≤ l.length ∧ i = .int .i64 k ∧ t = .int .i64 (p + shiftV (l.take k) p) ∧ ∃ q, wr = w.drewN q) (fun _ i _ => l.length - (intOf i).toNat)
              case atStart => exact ⟨0, Nat.zero_le _, rfl, by simp [shiftV], _, rfl⟩
              case round =>
                obtain ⟨k, hk, rfl, rfl, q2, rfl⟩ := hrel
                by_cases hlt : k < l.length
                · obtain ⟨x, hx⟩ := get_some hlt
                  obtain ⟨b, off, rfl, hbl, h1, h2, h3⟩ := Spl.at_ hr hx
                  obtain ⟨s1, s2, s3, s4, s5, s6, s7, s8⟩ := shift_step HFF.out HS.out hl (p := p) (by omega) hx
                  have hk0 : (0 : Int) ≤ (k : Int) := by omega
                  have hk1 : (k : Int) < (l.length : Int) := by omega
                  have HS1 := Lib.hid s1
                  clear s1 hx
                  generalize hA : shiftV (l.take k) p = a at *
                  generalize hB : shiftV (l.take (k + 1)) p = b at *
                  clear hA
                  have HBB := Lib.hid hB
                  clear hB
                  by_cases ht : x.to ≤ p
                  · rw [if_pos ht] at HS1
                    have HT := HS1.out
                    have HU := Lib.hid HT
                    clear HT HS1
                    go_wp2
                    go_quiet (fail)
                    go_wp2
                    go_roundw
                    case rel => exact ⟨k + 1, by omega, by go_num, by rw [HBB.out, HU.out]; go_num, _, rfl⟩
                    case measure => simp [intOf]; omega
                  · rw [if_neg ht] at HS1
                    have HT := HS1.out
                    have HU := Lib.hid HT
                    clear HT HS1
                    go_wp2
                    go_roundw
                    case rel => exact ⟨k + 1, by omega, by go_num, by rw [HBB.out, HU.out]; go_num, _, rfl⟩
                    case measure => simp [intOf]; omega
                · obtain rfl : k = l.length := by omega
                  rw [List.take_length]
                  go_wp2
                  go_ret2
                  exact ⟨ret_good HG.out rfl, _, rfl⟩
end Go.Proofs.Ytfflfbnnohlipaa
