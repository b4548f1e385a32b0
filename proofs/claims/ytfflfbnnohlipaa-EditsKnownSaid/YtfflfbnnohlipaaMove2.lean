/- edits.Moved. -/
import Derived.Test.YtfflfbnnohlipaaMoved
namespace Go.Proofs.Ytfflfbnnohlipaa
open Go.RowKit

theorem check_last {l : List Spl} {y : Spl} (hy : l.getLast? = some y) : checkV y.to l = if fitsV (maxTo l 0) l then 0 else 2 := by
  unfold checkV
  by_cases h : fitsV (maxTo l 0) l = true
  · rw [if_pos h]
    simp only [fitsV, Bool.and_eq_true, decide_eq_true_eq] at h
    have hm := maxTo_last l 0 h.2
    rw [hy] at hm
    simp only [Option.map_some, Option.getD_some] at hm
    rw [hm] at h
    rw [if_pos ⟨h.2, h.1⟩]
  · rw [if_neg h, if_neg]
    rintro ⟨h1, h2⟩
    have hm := maxTo_last l 0 h1
    rw [hy] at hm
    simp only [Option.map_some, Option.getD_some] at hm
    apply h
    simp only [fitsV, Bool.and_eq_true, decide_eq_true_eq]
    rw [hm]
    exact ⟨h2, h1⟩

theorem kept_append (a b : List Spl) (p : Int) : keptV (a ++ b) p = (keptV a p && keptV b p) := by simp [keptV]

set_option maxHeartbeats 1600000 in
theorem moved_no (A : Option Addr) (c : Nat) (l : List Spl) (p : Int) (w : World) (hl : l.length ≤ 30) (hr : Row w w.heap.size A l) (h0 : 0 < l.length) (hbad : fitsV (maxTo l 0) l = false) :
    Calls Try.prog 12 #[.slice A l.length c, .int .i64 p] w fun e w' => RetMoved l p e ∧ Below w.heap.size w w' := by
  obtain ⟨y, hy⟩ : ∃ y, l[l.length - 1]? = some y := get_some (by omega)
  have hy2 : l.getLast? = some y := by rw [List.getLast?_eq_getElem?]; exact hy
  obtain ⟨b, off, rfl, hbl, h1, h2, h3⟩ := Spl.at_ hr hy
  have hc := check_any y.to (some ⟨b, off, none⟩) c l w (by omega) hr
  rw [check_last hy2, hbad] at hc
  have HC := Lib.hid hc
  have HB := Lib.hid hbad
  have hx1 : (0 : Int) ≤ (l.length : Int) - 1 := by omega
  clear hc hbad hy hy2
  go_enter Try.func12, Try.ntmps12
  go_wp2_with (go_at_call 18; refine HC.out.mono ?_; rintro e w1 ⟨rfl, hb⟩)
  go_ret2
  exact ⟨ret_bad (bad_fits HB.out), hb⟩

set_option maxHeartbeats 3200000 in
theorem moved_yes (A : Option Addr) (c : Nat) (l : List Spl) (p : Int) (w : World) (hl : l.length ≤ 30) (hs : Small l) (hr : Row w w.heap.size A l) (hfit : l = [] ∨ fitsV (maxTo l 0) l = true) :
    Calls Try.prog 12 #[.slice A l.length c, .int .i64 p] w fun e w' => RetMoved l p e ∧ Below w.heap.size w w' := by
  have hfv : fitsV (maxTo l 0) l = true := by
    rcases hfit with rfl | h
    · rfl
    · exact h
  have hff : fitsFrom (maxTo l 0) 0 l = true := by simp [fitsV] at hfv; exact hfv.2
  have hgood : 0 ≤ p → p ≤ 4611686018427387904 → keptV l p = true → goodAt l p = true := fun a b d => good_all a b hfv d
  have HFF := Lib.hid hff
  have HFV := Lib.hid hfv
  have HG := Lib.hid hgood
  have HS := Lib.hid hs
  have hx1 : 0 < l.length → (0 : Int) ≤ (l.length : Int) - 1 := by omega
  have hc : ∀ y, l.getLast? = some y → Calls Try.prog 18 #[.int .i64 y.to, .slice A l.length c] w fun e w' => e = .returned (.int .i64 0) ∧ Below w.heap.size w w' := fun y hy => by
    have := check_any y.to A c l w (by omega) hr
    rwa [check_last hy, hfv] at this
  have HC := Lib.hid hc
  clear hfv hfit hff hgood hs hc
  by_cases h0 : 0 < l.length
  · obtain ⟨y, hy⟩ : ∃ y, l[l.length - 1]? = some y := get_some (by omega)
    have hy2 : l.getLast? = some y := by rw [List.getLast?_eq_getElem?]; exact hy
    obtain ⟨b, off, hA, hbl, h1, h2, h3⟩ := Spl.at_ hr hy
    have hxx := hx1 h0
    have HCC := Lib.hid (HC.out y hy2)
    subst hA
    clear hy hy2 hx1 HC
    go_enter Try.func12, Try.ntmps12
    go_wp2_with (first | (go_at_call 18; refine HCC.out.mono ?_; rintro e w1 ⟨rfl, hb⟩) | fail)
    clear h1 h2 h3 hxx HCC hbl
    have HR := Lib.hid hr
    clear hr
    go_loopw [6, 27] (fun t i wr => ∃ (k : Nat) (v : Int), k ≤ l.length ∧ i = .int .i64 k ∧ t = .int .i64 v ∧ (0 ≤ p → p ≤ 4611686018427387904 → v = p + shiftV (l.take k) p ∧ keptV (l.take k) p = true) ∧ Below w.heap.size w wr) (fun _ i _ => l.length - (intOf i).toNat)
    case atStart => exact ⟨0, p, Nat.zero_le _, rfl, rfl, fun _ _ => ⟨by simp [shiftV], rfl⟩, hb⟩
    case round =>
      obtain ⟨k, v, hk, rfl, rfl, hv, hb2⟩ := hrel
      clear hb
      by_cases hlt : k < l.length
      · obtain ⟨x, hx⟩ := get_some hlt
        obtain ⟨b', off', hA, hbl, h1, h2, h3⟩ := Spl.at_ (HR.out.below hb2 (Nat.le_refl _)) hx
        simp only [Option.some.injEq, Addr.mk.injEq] at hA
        obtain ⟨rfl, rfl, _⟩ := hA
        have HBX : Below w.heap.size w (wr.alloc (.cells #[.int .i64 x.frm, .int .i64 x.to, .string x.text] 33)) := hb2.alloc hb2.size _
        by_cases hin : 0 ≤ p ∧ p ≤ 4611686018427387904
        · obtain ⟨hp0, hp1⟩ := hin
          obtain ⟨rfl, hkk⟩ := hv hp0 hp1
          obtain ⟨s1, s2, s3, s4, s5, s6, s7, s8⟩ := shift_step HFF.out HS.out hl (p := p) hp0 hx
          have HS1 := Lib.hid s1
          have HT := Lib.hid (take_snoc hx)
          have HX := Lib.hid hx
          have HKK := Lib.hid hkk
          clear s1 hx hkk hv
          generalize hA : shiftV (l.take k) p = a at *
          generalize hB : shiftV (l.take (k + 1)) p = b at *
          clear hA
          have HBB := Lib.hid hB
          clear hB
          by_cases ht : x.to ≤ p
          · have HU := Lib.hid (HS1.out.trans (by rw [if_pos ht]))
            clear HS1
            go_wp2
            go_roundw
            case rel => exact ⟨k + 1, _, by omega, by go_num, rfl, fun _ _ => ⟨by rw [HBB.out, HU.out]; omega, by rw [HT.out, kept_append, HKK.out]; simp [keptV]; omega⟩, HBX⟩
            case measure => simp [intOf]; omega
          · have HU := Lib.hid (HS1.out.trans (by rw [if_neg ht]))
            clear HS1
            by_cases hf : x.frm ≤ p
            · go_wp2
              go_ret2
              exact ⟨ret_bad (bad_kept (keptV_no HX.out hf (by omega))), HBX⟩
            · go_wp2
              go_roundw
              case rel => exact ⟨k + 1, _, by omega, by go_num, rfl, fun _ _ => ⟨by rw [HBB.out, HU.out]; omega, by rw [HT.out, kept_append, HKK.out]; simp [keptV]; omega⟩, HBX⟩
              case measure => simp [intOf]; omega
        · clear hv hx
          by_cases ht : x.to ≤ p
          · go_wp2
            go_roundw
            case rel => exact ⟨k + 1, _, by omega, by go_num, rfl, fun a b => absurd ⟨a, b⟩ hin, HBX⟩
            case measure => simp [intOf]; omega
          · by_cases hf : x.frm ≤ p
            · go_wp2
              go_ret2
              exact ⟨ret_bad (bad_range (by omega)), HBX⟩
            · go_wp2
              go_roundw
              case rel => exact ⟨k + 1, _, by omega, by go_num, rfl, fun a b => absurd ⟨a, b⟩ hin, HBX⟩
              case measure => simp [intOf]; omega
      · obtain rfl : k = l.length := by omega
        rw [List.take_length] at hv
        have HV := Lib.hid hv
        clear hv
        by_cases hp0 : p < 0
        · go_wp2
          go_ret2
          exact ⟨ret_bad (bad_range (.inl hp0)), hb2⟩
        · by_cases hp1 : 4611686018427387904 < p
          · go_wp2
            go_ret2
            exact ⟨ret_bad (bad_range (.inr hp1)), hb2⟩
          · go_wp2
            go_ret2
            exact ⟨ret_good (HG.out (by omega) (by omega) (HV.out (by omega) (by omega)).2) (HV.out (by omega) (by omega)).1, hb2⟩
  · clear hx1 HC
    go_enter Try.func12, Try.ntmps12
    go_wp2_with fail
    have hb := Below.refl w.heap.size w
    have HR := Lib.hid hr
    clear hr
    go_loopw [6, 27] (fun t i wr => ∃ (k : Nat) (v : Int), k ≤ l.length ∧ i = .int .i64 k ∧ t = .int .i64 v ∧ (0 ≤ p → p ≤ 4611686018427387904 → v = p + shiftV (l.take k) p ∧ keptV (l.take k) p = true) ∧ Below w.heap.size w wr) (fun _ i _ => l.length - (intOf i).toNat)
    case atStart => exact ⟨0, p, Nat.zero_le _, rfl, rfl, fun _ _ => ⟨by simp [shiftV], rfl⟩, hb⟩
    case round =>
      obtain ⟨k, v, hk, rfl, rfl, hv, hb2⟩ := hrel
      clear hb
      by_cases hlt : k < l.length
      · omega
      · obtain rfl : k = l.length := by omega
        rw [List.take_length] at hv
        have HV := Lib.hid hv
        clear hv
        by_cases hp0 : p < 0
        · go_wp2
          go_ret2
          exact ⟨ret_bad (bad_range (.inl hp0)), hb2⟩
        · by_cases hp1 : 4611686018427387904 < p
          · go_wp2
            go_ret2
            exact ⟨ret_bad (bad_range (.inr hp1)), hb2⟩
          · go_wp2
            go_ret2
            exact ⟨ret_good (HG.out (by omega) (by omega) (HV.out (by omega) (by omega)).2) (HV.out (by omega) (by omega)).1, hb2⟩
end Go.Proofs.Ytfflfbnnohlipaa
