/- emendref01.Less of any two numbers: it ends. -/
import Derived.Test.YtoonneminimbfaaGreatDoorLess
namespace Go.Proofs.YtoonneminimbfaaGreatDoor
open Go.RowKit
set_option linter.unusedVariables false
set_option linter.unusedSimpArgs false

set_option maxRecDepth 100000 in
set_option maxHeartbeats 3200000 in
theorem less_some (n m : Nat) (A B : Option Addr) (ca cb : Nat) (w : World) (hn : (dg16 n).length ≤ 1000) (hA : RowOf uc 1 w w.heap.size A (dg16 n)) (hB : RowOf uc 1 w w.heap.size B (dg16 m)) :
    Calls Tryz.prog 78 #[.slice A (dg16 n).length ca, .slice B (dg16 m).length cb] w fun e w' => (∃ d, RetBig d e w') ∧ Below w.heap.size w w' := by
  obtain ⟨i30, hi30, hz0, hz1, hz2⟩ := info_split info30
  have HA := Lib.hid hA
  have HB := Lib.hid hB
  have HDN := Lib.hid (dg16_dig n)
  have HDM := Lib.hid (dg16_dig m)
  have HN := Lib.hid hn
  clear hA hB
  generalize dg16 n = a at *
  generalize dg16 m = b at *
  go_enter Tryz.func78, Tryz.ntmps78
  go_wp2_with fail
  go_loopw [5, 6, 7] (fun ov lv iv wr => ∃ (i lent : Nat) (l : List Nat), i ≤ a.length ∧ iv = .int .i64 i ∧ lv = .int .u64 lent ∧ LInv a b i lent l ∧ Own uc 1 30 wr w.heap.size ov l ∧ Below w.heap.size w wr) (fun _ _ iv _ => a.length - (intOf iv).toNat)
  case atStart => exact ⟨0, 0, [], Nat.zero_le _, rfl, rfl, ⟨rfl, fun x hx => by (cases hx), by decide, by simp [vl]⟩, Own.nil_, Below.refl _ _⟩
  case round =>
    obtain ⟨i, lent, l, hi, rfl, rfl, hI, hown, hb⟩ := hrel
    have HI := Lib.hid hI
    have HO := Lib.hid hown
    have HBE := Lib.hid hb
    have hl1 := hI.lent1
    have hbs := hb.size
    clear hI hown hb
    by_cases hlt : i < a.length
    · obtain ⟨ai, hai⟩ := get_some hlt
      have hai2 := HDN.out ai (List.mem_of_getElem? hai)
      have HAI := Lib.hid hai
      obtain ⟨ba, oa, rfl, _, hca⟩ := row_uc (HA.out.below HBE.out (Nat.le_refl _)) hai
      clear hai
      have g1 : (i : Int) < (a.length : Int) := by omega
      by_cases hlb : i < b.length
      · obtain ⟨bi, hbi⟩ := get_some hlb
        have hbi2 := HDM.out bi (List.mem_of_getElem? hbi)
        have HBI := Lib.hid hbi
        obtain ⟨bb, ob, rfl, _, hcb⟩ := row_uc (HB.out.below HBE.out (Nat.le_refl _)) hbi
        clear hbi
        have g2 : (i : Int) < (b.length : Int) := by omega
        obtain ⟨x, hx⟩ : ∃ x : Nat, x + lent + bi = ai + 65536 := ⟨ai + 65536 - lent - bi, by omega⟩
        have e1 : (ai : Int) + 65536 - (lent : Int) - (bi : Int) = (x : Int) := by omega
        have e0 : IntKind.u64.wrap ((ai : Int) + 65536 - (lent : Int) - (bi : Int)) = (x : Int) := by rw [e1]; simp only [IntKind.wrap, IntKind.bits, IntKind.signed]; simp; omega
        have HX := Lib.hid hx
        have hlen2 : l.length ≤ 1000 := by have := HI.out.len; have := HN.out; omega
        have HLN := Lib.hid hlen2
        clear hx hlen2
        go_wp2_with (at_builtin; go_must (refine wpList_append_one (cs := uc) rfl _ _ 71 rfl 30 i30 _ 8 Tryz.underlying71 hi30 hz0 hz1 hz2 rfl (by decide) uc_len uc_one _ w.heap.size _ u5 l (x % 65536) _ (by simp [uc]) (by rfl) (by rfl) (by rfl) HO.out (by unfold maxLen; have := HLN.out; omega) (by have := HLN.out; omega) hbs ?_); intro v' w' hown' hg hat)
        go_roundw
        case rel => exact ⟨i + 1, 1 - x / 65536, l ++ [x % 65536], by omega, by go_num, by go_num, HI.out.step HAI.out hai2 hbi2 (.inl HBI.out) HX.out, hown', below_grown HBE.out HO.out hbs hg⟩
        case measure => simp [intOf]; omega
      · have g2 : ¬ (i : Int) < (b.length : Int) := by omega
        obtain ⟨x, hx⟩ : ∃ x : Nat, x + lent + 0 = ai + 65536 := ⟨ai + 65536 - lent, by omega⟩
        have e1 : (ai : Int) + 65536 - (lent : Int) = (x : Int) := by omega
        have HX := Lib.hid hx
        have hlen2 : l.length ≤ 1000 := by have := HI.out.len; have := HN.out; omega
        have HLN := Lib.hid hlen2
        clear hx hlen2
        go_wp2_with (at_builtin; go_must (refine wpList_append_one (cs := uc) rfl _ _ 71 rfl 30 i30 _ 8 Tryz.underlying71 hi30 hz0 hz1 hz2 rfl (by decide) uc_len uc_one _ w.heap.size _ u5 l (x % 65536) _ (by simp [uc]) (by rfl) (by rfl) (by rfl) HO.out (by unfold maxLen; have := HLN.out; omega) (by have := HLN.out; omega) hbs ?_); intro v' w' hown' hg hat)
        go_roundw
        case rel => exact ⟨i + 1, 1 - x / 65536, l ++ [x % 65536], by omega, by go_num, by go_num, HI.out.step HAI.out hai2 (by decide) (.inr ⟨by omega, rfl⟩) HX.out, hown', below_grown HBE.out HO.out hbs hg⟩
        case measure => simp [intOf]; omega
    · obtain rfl : i = a.length := by omega
      have HT := Lib.hid (trim_big u5 l (vl l) wr (by have := HI.out.len; have := HN.out; omega) HI.out.dig rfl w.heap.size HO.out)
      go_wp2_with (go_at_call 87; refine HT.out.mono ?_; rintro e w' ⟨⟨A3, c3, rfl, hc3, hr3⟩, rfl⟩)
      go_ret
      exact ⟨⟨_, A3, c3, rfl, hc3, hr3⟩, HBE.out⟩

end Go.Proofs.YtoonneminimbfaaGreatDoor
