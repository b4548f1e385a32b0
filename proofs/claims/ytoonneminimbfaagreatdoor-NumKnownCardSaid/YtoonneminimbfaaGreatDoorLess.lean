/- emendref01.Less, Sum. -/
import Derived.Test.YtoonneminimbfaaGreatDoorCmp
namespace Go.Proofs.YtoonneminimbfaaGreatDoor
open Go.RowKit
set_option linter.unusedVariables false
set_option linter.unusedSimpArgs false

/-- trim of a row of the call's own. -/
theorem trim_big (v : Value) (l : List Nat) (n : Nat) (w : World) (hl : l.length ≤ 1000000) (hd : ∀ x ∈ l, x < 65536) (hn : vl l = n) (B : Nat) (hown : Own uc 1 30 w B v l) :
    Calls Tryz.prog 87 #[v] w fun e w' => RetBig n e w' ∧ w = w' := by
  have hcap : ∃ A c, v = .slice A l.length c ∧ l.length ≤ c ∧ RowOf uc 1 w w.heap.size A l := by
    obtain ⟨A, c, rfl, hr⟩ := hown.row uc_len
    refine ⟨A, c, rfl, ?_, hr⟩
    rcases hown.2 with ⟨h1, h2⟩ | ⟨g, cap, cur, hv, hB, hgg, hcap, hm, hsz, htake⟩
    · rw [h2]; exact Nat.zero_le _
    · cases hv; omega
  obtain ⟨A, c, rfl, hlc, hr⟩ := hcap
  refine (trim_any A c l w hl hlc hr).mono ?_
  rintro e w' ⟨⟨k, hk, rfl, hk1, hk2⟩, rfl⟩
  refine ⟨⟨A, c, ?_⟩, rfl⟩
  have hval : vl (l.take k) = n := by rw [vl_cut hk2, hn]
  have hlen2 : (l.take k).length = k := by rw [List.length_take]; omega
  have hdg : dg16 n = l.take k := by
    rw [← hval]
    refine dg16_vl _ (fun x hx => hd x (List.mem_of_mem_take hx)) fun x hx => ?_
    rw [hlen2, List.getElem?_take] at hx
    split at hx
    · exact hk1 x hx (by omega)
    · cases hx
  rw [hdg, hlen2]
  exact ⟨rfl, by omega, hr.take k⟩

structure LInv (a b : List Nat) (i lent : Nat) (l : List Nat) : Prop where
  len : l.length = i
  dig : ∀ x ∈ l, x < 65536
  lent1 : lent ≤ 1
  val : vl (a.take i) + 65536 ^ i * lent = vl (b.take i) + vl l
theorem take_over {l : List Nat} {i : Nat} (h : l.length ≤ i) : l.take i = l := List.take_of_length_le h
theorem mem_snoc {l : List Nat} {d : Nat} (h : ∀ x ∈ l, x < 65536) (hd : d < 65536) : ∀ x ∈ l ++ [d], x < 65536 := by
  intro x hx
  rcases List.mem_append.1 hx with h1 | h1
  · exact h x h1
  · rw [List.mem_singleton] at h1; omega
theorem LInv.step {a b l : List Nat} {i lent ai y x : Nat} (h : LInv a b i lent l) (hai : a[i]? = some ai) (ha : ai < 65536) (hy : y < 65536)
    (hb : (b[i]? = some y) ∨ (b.length ≤ i ∧ y = 0)) (hx : x + lent + y = ai + 65536) : LInv a b (i + 1) (1 - x / 65536) (l ++ [x % 65536]) where
  len := by rw [List.length_append, h.len]; rfl
  dig := mem_snoc h.dig (Nat.mod_lt _ (by decide))
  lent1 := by omega
  val := by
    have e0 := h.val
    have h1 := h.lent1
    have eb : vl (b.take (i + 1)) = vl (b.take i) + 65536 ^ i * y := by
      rcases hb with hb | ⟨hb, rfl⟩
      · exact vl_take hb
      · rw [take_over (by omega), take_over hb]; simp
    rw [vl_take hai, eb, vl_snoc, h.len, Nat.pow_succ]
    generalize 65536 ^ i = P at *
    have hq : x / 65536 ≤ 1 := by omega
    have c1 : ai + 65536 * (1 - x / 65536) = lent + y + x % 65536 := by omega
    have c2 : P * (ai + 65536 * (1 - x / 65536)) = P * (lent + y + x % 65536) := by rw [c1]
    rw [Nat.mul_add, Nat.mul_add, Nat.mul_add] at c2
    rw [Nat.mul_assoc P 65536]
    omega

set_option maxRecDepth 100000 in
set_option maxHeartbeats 3200000 in
theorem less_any (n m : Nat) (A B : Option Addr) (ca cb : Nat) (w : World) (hn : (dg16 n).length ≤ 1000) (hmn : m ≤ n) (hA : RowOf uc 1 w w.heap.size A (dg16 n)) (hB : RowOf uc 1 w w.heap.size B (dg16 m)) :
    Calls Tryz.prog 78 #[.slice A (dg16 n).length ca, .slice B (dg16 m).length cb] w fun e w' => RetBig (n - m) e w' ∧ Below w.heap.size w w' := by
  obtain ⟨i30, hi30, hz0, hz1, hz2⟩ := info_split info30
  have HA := Lib.hid hA
  have HB := Lib.hid hB
  have HDN := Lib.hid (dg16_dig n)
  have HDM := Lib.hid (dg16_dig m)
  have HVN := Lib.hid (vl_dg16 n)
  have HVM := Lib.hid (vl_dg16 m)
  have hln : (dg16 m).length ≤ (dg16 n).length := by
    rcases Nat.lt_or_ge (dg16 n).length (dg16 m).length with h | h
    · have := len_lt h; omega
    · exact h
  have HLM := Lib.hid hln
  have HMN := Lib.hid hmn
  have HN := Lib.hid hn
  clear hA hB hln hmn
  generalize dg16 n = a at *
  generalize dg16 m = b at *
  go_enter Tryz.func78, Tryz.ntmps78
  go_wp2_with fail
  go_loopw [5, 6, 7] (fun ov lv iv wr => ∃ (i lent : Nat) (l : List Nat), i ≤ a.length ∧ iv = .int .i64 i ∧ lv = .int .u64 lent ∧ LInv a b i lent l ∧ Own uc 1 30 wr w.heap.size ov l ∧ Below w.heap.size w wr) (fun _ _ iv _ => a.length - (intOf iv).toNat)
  case atStart => exact ⟨0, 0, [], Nat.zero_le _, rfl, rfl, ⟨rfl, fun x hx => by (cases hx), by decide, by simp [vl]⟩, Own.nil_, Below.refl _ _⟩
  case round =>
    obtain ⟨i, lent, l, hi, rfl, rfl, hI, hown, hb⟩ := hrel
    have HI := Lib.hid hI
    have HO := Lib.hid hown
    have HBE := Lib.hid hb
    have hl1 := hI.lent1
    have hbs := hb.size
    clear hI hown hb
    by_cases hlt : i < a.length
    · obtain ⟨ai, hai⟩ := get_some hlt
      have hai2 := HDN.out ai (List.mem_of_getElem? hai)
      have HAI := Lib.hid hai
      obtain ⟨ba, oa, rfl, _, hca⟩ := row_uc (HA.out.below HBE.out (Nat.le_refl _)) hai
      clear hai
      have g1 : (i : Int) < (a.length : Int) := by omega
      by_cases hlb : i < b.length
      · obtain ⟨bi, hbi⟩ := get_some hlb
        have hbi2 := HDM.out bi (List.mem_of_getElem? hbi)
        have HBI := Lib.hid hbi
        obtain ⟨bb, ob, rfl, _, hcb⟩ := row_uc (HB.out.below HBE.out (Nat.le_refl _)) hbi
        clear hbi
        have g2 : (i : Int) < (b.length : Int) := by omega
        obtain ⟨x, hx⟩ : ∃ x : Nat, x + lent + bi = ai + 65536 := ⟨ai + 65536 - lent - bi, by omega⟩
        have e1 : (ai : Int) + 65536 - (lent : Int) - (bi : Int) = (x : Int) := by omega
        have e0 : IntKind.u64.wrap ((ai : Int) + 65536 - (lent : Int) - (bi : Int)) = (x : Int) := by rw [e1]; simp only [IntKind.wrap, IntKind.bits, IntKind.signed]; simp; omega
        have HX := Lib.hid hx
        have hlen2 : l.length ≤ 1000 := by have := HI.out.len; have := HN.out; omega
        have HLN := Lib.hid hlen2
        clear hx hlen2
        go_wp2_with (at_builtin; go_must (refine wpList_append_one (cs := uc) rfl _ _ 71 rfl 30 i30 _ 8 Tryz.underlying71 hi30 hz0 hz1 hz2 rfl (by decide) uc_len uc_one _ w.heap.size _ u5 l (x % 65536) _ (by simp [uc]) (by rfl) (by rfl) (by rfl) HO.out (by unfold maxLen; have := HLN.out; omega) (by have := HLN.out; omega) hbs ?_); intro v' w' hown' hg hat)
        go_roundw
        case rel => exact ⟨i + 1, 1 - x / 65536, l ++ [x % 65536], by omega, by go_num, by go_num, HI.out.step HAI.out hai2 hbi2 (.inl HBI.out) HX.out, hown', below_grown HBE.out HO.out hbs hg⟩
        case measure => simp [intOf]; omega
      · have g2 : ¬ (i : Int) < (b.length : Int) := by omega
        obtain ⟨x, hx⟩ : ∃ x : Nat, x + lent + 0 = ai + 65536 := ⟨ai + 65536 - lent, by omega⟩
        have e1 : (ai : Int) + 65536 - (lent : Int) = (x : Int) := by omega
        have HX := Lib.hid hx
        have hlen2 : l.length ≤ 1000 := by have := HI.out.len; have := HN.out; omega
        have HLN := Lib.hid hlen2
        clear hx hlen2
        go_wp2_with (at_builtin; go_must (refine wpList_append_one (cs := uc) rfl _ _ 71 rfl 30 i30 _ 8 Tryz.underlying71 hi30 hz0 hz1 hz2 rfl (by decide) uc_len uc_one _ w.heap.size _ u5 l (x % 65536) _ (by simp [uc]) (by rfl) (by rfl) (by rfl) HO.out (by unfold maxLen; have := HLN.out; omega) (by have := HLN.out; omega) hbs ?_); intro v' w' hown' hg hat)
        go_roundw
        case rel => exact ⟨i + 1, 1 - x / 65536, l ++ [x % 65536], by omega, by go_num, by go_num, HI.out.step HAI.out hai2 (by decide) (.inr ⟨by omega, rfl⟩) HX.out, hown', below_grown HBE.out HO.out hbs hg⟩
        case measure => simp [intOf]; omega
    · obtain rfl : i = a.length := by omega
      have hval : vl l = n - m := by
        have e0 := HI.out.val
        rw [List.take_length, take_over HLM.out, HVN.out, HVM.out] at e0
        have h1 := vl_lt l HI.out.dig
        rw [HI.out.len] at h1
        have h2 := HMN.out
        rcases (show lent = 0 ∨ lent = 1 by omega) with h3 | h3
        · subst h3; omega
        · subst h3; omega
      have HT := Lib.hid (trim_big u5 l (n - m) wr (by have := HI.out.len; have := HN.out; omega) HI.out.dig hval w.heap.size HO.out)
      clear hval
      go_wp2_with (go_at_call 87; refine HT.out.mono ?_; rintro e w' ⟨⟨A3, c3, rfl, hc3, hr3⟩, rfl⟩)
      go_ret
      exact ⟨⟨A3, c3, rfl, hc3, hr3⟩, HBE.out⟩

structure SInv (a b : List Nat) (i c : Nat) (l : List Nat) : Prop where
  len : l.length = i
  dig : ∀ x ∈ l, x < 65536
  carry : c ≤ 1
  val : vl (a.take i) + vl (b.take i) = vl l + 65536 ^ i * c
theorem SInv.step {a b l : List Nat} {i c x y z : Nat} (h : SInv a b i c l) (hx : x < 65536) (hy : y < 65536)
    (ha : (a[i]? = some x) ∨ (a.length ≤ i ∧ x = 0)) (hb : (b[i]? = some y) ∨ (b.length ≤ i ∧ y = 0)) (hz : z = c + x + y) : SInv a b (i + 1) (z / 65536) (l ++ [z % 65536]) where
  len := by rw [List.length_append, h.len]; rfl
  dig := mem_snoc h.dig (Nat.mod_lt _ (by decide))
  carry := by have := h.carry; omega
  val := by
    have e0 := h.val
    have ea : vl (a.take (i + 1)) = vl (a.take i) + 65536 ^ i * x := by
      rcases ha with ha | ⟨ha, rfl⟩
      · exact vl_take ha
      · rw [take_over (by omega), take_over ha]; simp
    have eb : vl (b.take (i + 1)) = vl (b.take i) + 65536 ^ i * y := by
      rcases hb with hb | ⟨hb, rfl⟩
      · exact vl_take hb
      · rw [take_over (by omega), take_over hb]; simp
    rw [ea, eb, vl_snoc, h.len, Nat.pow_succ]
    generalize 65536 ^ i = P at *
    have c1 : z % 65536 + 65536 * (z / 65536) = c + x + y := by omega
    have c2 : P * (z % 65536 + 65536 * (z / 65536)) = P * (c + x + y) := by rw [c1]
    rw [Nat.mul_add, Nat.mul_add, Nat.mul_add] at c2
    rw [Nat.mul_assoc P 65536]
    omega

set_option maxRecDepth 100000 in
set_option maxHeartbeats 6400000 in
theorem sum_any (n m : Nat) (A B : Option Addr) (ca cb : Nat) (w : World) (hn : (dg16 n).length ≤ 1000) (hm : (dg16 m).length ≤ 1000) (hA : RowOf uc 1 w w.heap.size A (dg16 n)) (hB : RowOf uc 1 w w.heap.size B (dg16 m)) :
    Calls Tryz.prog 57 #[.slice A (dg16 n).length ca, .slice B (dg16 m).length cb] w fun e w' => RetBig (n + m) e w' ∧ Below w.heap.size w w' := by
  obtain ⟨i30, hi30, hz0, hz1, hz2⟩ := info_split info30
  have HA := Lib.hid hA
  have HB := Lib.hid hB
  have HDN := Lib.hid (dg16_dig n)
  have HDM := Lib.hid (dg16_dig m)
  have HVN := Lib.hid (vl_dg16 n)
  have HVM := Lib.hid (vl_dg16 m)
  have HN := Lib.hid hn
  have HM := Lib.hid hm
  clear hA hB
  generalize dg16 n = a at *
  generalize dg16 m = b at *
  go_enter Tryz.func57, Tryz.ntmps57
  go_wp2_with fail
  go_loopw [5, 6, 7] (fun ov lv iv wr => ∃ (i c : Nat) (l : List Nat), (i ≤ a.length ∨ i ≤ b.length ∨ (c = 0 ∧ i ≤ max a.length b.length + 1)) ∧ i ≤ 1001 ∧ iv = .int .i64 i ∧ lv = .int .u64 c ∧ SInv a b i c l ∧ Own uc 1 30 wr w.heap.size ov l ∧ Below w.heap.size w wr) (fun _ _ iv _ => 1002 - (intOf iv).toNat)
  case atStart => exact ⟨0, 0, [], .inl (Nat.zero_le _), by omega, rfl, rfl, ⟨rfl, fun x hx => by (cases hx), by decide, by simp [vl]⟩, Own.nil_, Below.refl _ _⟩
  case round =>
    obtain ⟨i, c, l, hi, hi2, rfl, rfl, hI, hown, hb⟩ := hrel
    have HI := Lib.hid hI
    have HO := Lib.hid hown
    have HBE := Lib.hid hb
    have HII := Lib.hid hi
    have hl1 := hI.carry
    have hbs := hb.size
    have hlen2 : l.length ≤ 1001 := by have := hI.len; omega
    have HLN := Lib.hid hlen2
    clear hI hown hb hi hlen2
    -- what is added
    have hda : ∃ x, x < 65536 ∧ ((a[i]? = some x) ∨ (a.length ≤ i ∧ x = 0)) := by
      rcases Nat.lt_or_ge i a.length with h | h
      · obtain ⟨x, hx⟩ := get_some h
        exact ⟨x, HDN.out x (List.mem_of_getElem? hx), .inl hx⟩
      · exact ⟨0, by decide, .inr ⟨h, rfl⟩⟩
    have hdb : ∃ x, x < 65536 ∧ ((b[i]? = some x) ∨ (b.length ≤ i ∧ x = 0)) := by
      rcases Nat.lt_or_ge i b.length with h | h
      · obtain ⟨x, hx⟩ := get_some h
        exact ⟨x, HDM.out x (List.mem_of_getElem? hx), .inl hx⟩
      · exact ⟨0, by decide, .inr ⟨h, rfl⟩⟩
    obtain ⟨x, hx65, hdx⟩ := hda
    obtain ⟨y, hy65, hdy⟩ := hdb
    have HDX := Lib.hid hdx
    have HDY := Lib.hid hdy
    by_cases hla : i < a.length
    · have hai : a[i]? = some x := by rcases hdx with h | ⟨h, _⟩ <;> first | exact h | omega
      obtain ⟨ba, oa, rfl, _, hca⟩ := row_uc (HA.out.below HBE.out (Nat.le_refl _)) hai
      have g1 : (i : Int) < (a.length : Int) := by omega
      clear hdx hai
      by_cases hlb : i < b.length
      · have hbi : b[i]? = some y := by rcases hdy with h | ⟨h, _⟩ <;> first | exact h | omega
        obtain ⟨bb, ob, rfl, _, hcb⟩ := row_uc (HB.out.below HBE.out (Nat.le_refl _)) hbi
        have g2 : (i : Int) < (b.length : Int) := by omega
        clear hdy hbi
        obtain ⟨z, hz⟩ : ∃ z : Nat, z = c + x + y := ⟨_, rfl⟩
        have HZ := Lib.hid hz
        have e1 : (c : Int) + (x : Int) + (y : Int) = (z : Int) := by omega
        clear hz
        have hz65 : z ≤ 200000 := by have := HZ.out; omega
        go_wp2_with (at_builtin; go_must (refine wpList_append_one (cs := uc) rfl _ _ 71 rfl 30 i30 _ 8 Tryz.underlying71 hi30 hz0 hz1 hz2 rfl (by decide) uc_len uc_one _ w.heap.size _ u5 l (z % 65536) _ (by simp [uc]) (by rfl) (by rfl) (by rfl) HO.out (by unfold maxLen; have := HLN.out; omega) (by have := HLN.out; omega) hbs ?_); intro v' w' hown' hg hat)
        go_roundw
        case rel => exact ⟨i + 1, z / 65536, l ++ [z % 65536], .inl (by omega), by have := HN.out; omega, by go_num, by go_num, HI.out.step hx65 hy65 HDX.out HDY.out HZ.out, hown', below_grown HBE.out HO.out hbs hg⟩
        case measure => simp [intOf]; omega
      · obtain rfl : y = 0 := by
          rcases hdy with h | ⟨_, h⟩
          · rw [List.getElem?_eq_none (by omega)] at h; cases h
          · exact h
        have g2 : ¬ (i : Int) < (b.length : Int) := by omega
        clear hdy
        obtain ⟨z, hz⟩ : ∃ z : Nat, z = c + x + 0 := ⟨_, rfl⟩
        have HZ := Lib.hid hz
        have e1 : (c : Int) + (x : Int) = (z : Int) := by omega
        clear hz
        have hz65 : z ≤ 200000 := by have := HZ.out; omega
        go_wp2_with (at_builtin; go_must (refine wpList_append_one (cs := uc) rfl _ _ 71 rfl 30 i30 _ 8 Tryz.underlying71 hi30 hz0 hz1 hz2 rfl (by decide) uc_len uc_one _ w.heap.size _ u5 l (z % 65536) _ (by simp [uc]) (by rfl) (by rfl) (by rfl) HO.out (by unfold maxLen; have := HLN.out; omega) (by have := HLN.out; omega) hbs ?_); intro v' w' hown' hg hat)
        go_roundw
        case rel => exact ⟨i + 1, z / 65536, l ++ [z % 65536], .inl (by omega), by have := HN.out; omega, by go_num, by go_num, HI.out.step hx65 hy65 HDX.out HDY.out HZ.out, hown', below_grown HBE.out HO.out hbs hg⟩
        case measure => simp [intOf]; omega
    · obtain rfl : x = 0 := by
        rcases hdx with h | ⟨_, h⟩
        · rw [List.getElem?_eq_none (by omega)] at h; cases h
        · exact h
      have g1 : ¬ (i : Int) < (a.length : Int) := by omega
      clear hdx
      by_cases hlb : i < b.length
      · have hbi : b[i]? = some y := by rcases hdy with h | ⟨h, _⟩ <;> first | exact h | omega
        obtain ⟨bb, ob, rfl, _, hcb⟩ := row_uc (HB.out.below HBE.out (Nat.le_refl _)) hbi
        have g2 : (i : Int) < (b.length : Int) := by omega
        clear hdy hbi
        obtain ⟨z, hz⟩ : ∃ z : Nat, z = c + 0 + y := ⟨_, rfl⟩
        have HZ := Lib.hid hz
        have e1 : (c : Int) + (y : Int) = (z : Int) := by omega
        clear hz
        have hz65 : z ≤ 200000 := by have := HZ.out; omega
        go_wp2_with (at_builtin; go_must (refine wpList_append_one (cs := uc) rfl _ _ 71 rfl 30 i30 _ 8 Tryz.underlying71 hi30 hz0 hz1 hz2 rfl (by decide) uc_len uc_one _ w.heap.size _ u5 l (z % 65536) _ (by simp [uc]) (by rfl) (by rfl) (by rfl) HO.out (by unfold maxLen; have := HLN.out; omega) (by have := HLN.out; omega) hbs ?_); intro v' w' hown' hg hat)
        go_roundw
        case rel => exact ⟨i + 1, z / 65536, l ++ [z % 65536], .inr (.inl (by omega)), by have := HM.out; omega, by go_num, by go_num, HI.out.step hx65 hy65 HDX.out HDY.out HZ.out, hown', below_grown HBE.out HO.out hbs hg⟩
        case measure => simp [intOf]; omega
      · obtain rfl : y = 0 := by
          rcases hdy with h | ⟨_, h⟩
          · rw [List.getElem?_eq_none (by omega)] at h; cases h
          · exact h
        have g2 : ¬ (i : Int) < (b.length : Int) := by omega
        clear hdy
        by_cases hc : c = 0
        · subst hc
          have hval : vl l = n + m := by
            have e0 := HI.out.val
            rw [take_over (by omega), take_over (by omega), HVN.out, HVM.out] at e0
            omega
          have HT := Lib.hid (trim_big u5 l (n + m) wr (by have := HLN.out; omega) HI.out.dig hval w.heap.size HO.out)
          clear hval
          go_wp2_with (go_at_call 87; refine HT.out.mono ?_; rintro e w' ⟨⟨A3, c3, rfl, hc3, hr3⟩, rfl⟩)
          go_ret
          exact ⟨⟨A3, c3, rfl, hc3, hr3⟩, HBE.out⟩
        · obtain rfl : c = 1 := by omega
          have hi3 : i ≤ 1000 := by have h1 := HII.out; have h2 := HN.out; have h3 := HM.out; omega
          go_wp2_with (at_builtin; go_must (refine wpList_append_one (cs := uc) rfl _ _ 71 rfl 30 i30 _ 8 Tryz.underlying71 hi30 hz0 hz1 hz2 rfl (by decide) uc_len uc_one _ w.heap.size _ u5 l 1 _ (by simp [uc]) (by rfl) (by rfl) (by rfl) HO.out (by unfold maxLen; have := HLN.out; omega) (by have := HLN.out; omega) hbs ?_); intro v' w' hown' hg hat)
          go_roundw
          case rel => exact ⟨i + 1, 0, l ++ [1], .inr (.inr ⟨rfl, by have h1 := HII.out; omega⟩), by omega, by go_num, by first | rfl | go_num, HI.out.step hx65 hy65 HDX.out HDY.out rfl, hown', below_grown HBE.out HO.out hbs hg⟩
          case measure => simp [intOf]; omega
end Go.Proofs.YtoonneminimbfaaGreatDoor
