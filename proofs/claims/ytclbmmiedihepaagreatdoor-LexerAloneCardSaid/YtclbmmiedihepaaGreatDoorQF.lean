/- emendref01.Less, Sum. emendref01.Up, Scaled, Bits. -/
import Derived.Test.YtclbmmiedihepaaGreatDoorQE
namespace Go.Proofs.YtclbmmiedihepaaGreatDoor
section
open Go.RowKit
set_option linter.unusedVariables false
set_option linter.unusedSimpArgs false
/-- trim of a row of the call's own. -/
theorem trim_big (v : Value) (l : List Nat) (n : Nat) (w : World) (hl : l.length ≤ 1000000) (hd : ∀ x ∈ l, x < 65536) (hn : vl l = n) (B : Nat) (hown : Own uc 1 86 w B v l) :
  Calls Tryz.prog 108 #[v] w fun e w' => RetBig n e w' ∧ w = w' := by
 have hcap : ∃ A c, v = .slice A l.length c ∧ l.length ≤ c ∧ RowOf uc 1 w w.heap.size A l := by
  obtain ⟨A, c, rfl, hr⟩ := hown.row uc_len
  refine ⟨A, c, rfl, ?_, hr⟩
  rcases hown.2 with ⟨h1, h2⟩ | ⟨g, cap, cur, hv, hB, hgg, hcap, hm, hsz, htake⟩
  · rw [h2]; exact Nat.zero_le _
  · cases hv; omega
 obtain ⟨A, c, rfl, hlc, hr⟩ := hcap
 refine (trim_any A c l w hl hlc hr).mono ?_
 rintro e w' ⟨⟨k, hk, rfl, hk1, hk2⟩, rfl⟩
 refine ⟨⟨A, c, ?_⟩, rfl⟩
 have hval : vl (l.take k) = n := by rw [vl_cut hk2, hn]
 have hlen2 : (l.take k).length = k := by rw [List.length_take]; omega
 have hdg : dg16 n = l.take k := by
  rw [← hval]
  refine dg16_vl _ (fun x hx => hd x (List.mem_of_mem_take hx)) fun x hx => ?_
  rw [hlen2, List.getElem?_take] at hx
  split at hx
  · exact hk1 x hx (by omega)
  · cases hx
 rw [hdg, hlen2]
 exact ⟨rfl, by omega, hr.take k⟩

structure LInv (a b : List Nat) (i lent : Nat) (l : List Nat) : Prop where
 len : l.length = i
 dig : ∀ x ∈ l, x < 65536
 lent1 : lent ≤ 1
 val : vl (a.take i) + 65536 ^ i * lent = vl (b.take i) + vl l
theorem take_over {l : List Nat} {i : Nat} (h : l.length ≤ i) : l.take i = l := List.take_of_length_le h
theorem mem_snoc {l : List Nat} {d : Nat} (h : ∀ x ∈ l, x < 65536) (hd : d < 65536) : ∀ x ∈ l ++ [d], x < 65536 := by
 intro x hx
 rcases List.mem_append.1 hx with h1 | h1
 · exact h x h1
 · rw [List.mem_singleton] at h1; omega
theorem LInv.step {a b l : List Nat} {i lent ai y x : Nat} (h : LInv a b i lent l) (hai : a[i]? = some ai) (ha : ai < 65536) (hy : y < 65536)
  (hb : (b[i]? = some y) ∨ (b.length ≤ i ∧ y = 0)) (hx : x + lent + y = ai + 65536) : LInv a b (i + 1) (1 - x / 65536) (l ++ [x % 65536]) where
 len := by rw [List.length_append, h.len]; rfl
 dig := mem_snoc h.dig (Nat.mod_lt _ (by decide))
 lent1 := by omega
 val := by
  have e0 := h.val
  have h1 := h.lent1
  have eb : vl (b.take (i + 1)) = vl (b.take i) + 65536 ^ i * y := by
   rcases hb with hb | ⟨hb, rfl⟩
   · exact vl_take hb
   · rw [take_over (by omega), take_over hb]; simp
  rw [vl_take hai, eb, vl_snoc, h.len, Nat.pow_succ]
  generalize 65536 ^ i = P at *
  have hq : x / 65536 ≤ 1 := by omega
  have c1 : ai + 65536 * (1 - x / 65536) = lent + y + x % 65536 := by omega
  have c2 : P * (ai + 65536 * (1 - x / 65536)) = P * (lent + y + x % 65536) := by rw [c1]
  rw [Nat.mul_add, Nat.mul_add, Nat.mul_add] at c2
  rw [Nat.mul_assoc P 65536]
  omega

set_option maxRecDepth 100000 in
set_option maxHeartbeats 3200000 in
theorem less_any (n m : Nat) (A B : Option Addr) (ca cb : Nat) (w : World) (hn : (dg16 n).length ≤ 1000) (hmn : m ≤ n) (hA : RowOf uc 1 w w.heap.size A (dg16 n)) (hB : RowOf uc 1 w w.heap.size B (dg16 m)) :
  Calls Tryz.prog 112 #[.slice A (dg16 n).length ca, .slice B (dg16 m).length cb] w fun e w' => RetBig (n - m) e w' ∧ Below w.heap.size w w' := by
 obtain ⟨i30, hi30, hz0, hz1, hz2⟩ := info_split info30
 have HA := Lib.hid hA
 have HB := Lib.hid hB
 have HDN := Lib.hid (dg16_dig n)
 have HDM := Lib.hid (dg16_dig m)
 have HVN := Lib.hid (vl_dg16 n)
 have HVM := Lib.hid (vl_dg16 m)
 have hln : (dg16 m).length ≤ (dg16 n).length := by
  rcases Nat.lt_or_ge (dg16 n).length (dg16 m).length with h | h
  · have := len_lt h; omega
  · exact h
 have HLM := Lib.hid hln
 have HMN := Lib.hid hmn
 have HN := Lib.hid hn
 clear hA hB hln hmn
 generalize dg16 n = a at *
 generalize dg16 m = b at *
 go_enter Tryz.func112, Tryz.ntmps112
 go_wp2_with fail
 go_loopw [5, 6, 7] (fun ov lv iv wr => ∃ (i lent : Nat) (l : List Nat), i ≤ a.length ∧ iv = .int .i64 i ∧ lv = .int .u64 lent ∧ LInv a b i lent l ∧ Own uc 1 86 wr w.heap.size ov l ∧ Below w.heap.size w wr) (fun _ _ iv _ => a.length - (intOf iv).toNat)
 case atStart => exact ⟨0, 0, [], Nat.zero_le _, rfl, rfl, ⟨rfl, fun x hx => by (cases hx), by decide, by simp [vl]⟩, Own.nil_, Below.refl _ _⟩
 case round =>
  obtain ⟨i, lent, l, hi, rfl, rfl, hI, hown, hb⟩ := hrel
  have HI := Lib.hid hI
  have HO := Lib.hid hown
  have HBE := Lib.hid hb
  have hl1 := hI.lent1
  have hbs := hb.size
  clear hI hown hb
  by_cases hlt : i < a.length
  · obtain ⟨ai, hai⟩ := get_some hlt
    have hai2 := HDN.out ai (List.mem_of_getElem? hai)
    have HAI := Lib.hid hai
    obtain ⟨ba, oa, rfl, _, hca⟩ := row_uc (HA.out.below HBE.out (Nat.le_refl _)) hai
    clear hai
    have g1 : (i : Int) < (a.length : Int) := by omega
    by_cases hlb : i < b.length
    · obtain ⟨bi, hbi⟩ := get_some hlb
      have hbi2 := HDM.out bi (List.mem_of_getElem? hbi)
      have HBI := Lib.hid hbi
      obtain ⟨bb, ob, rfl, _, hcb⟩ := row_uc (HB.out.below HBE.out (Nat.le_refl _)) hbi
      clear hbi
      have g2 : (i : Int) < (b.length : Int) := by omega
      obtain ⟨x, hx⟩ : ∃ x : Nat, x + lent + bi = ai + 65536 := ⟨ai + 65536 - lent - bi, by omega⟩
      have e1 : (ai : Int) + 65536 - (lent : Int) - (bi : Int) = (x : Int) := by omega
      have e0 : IntKind.u64.wrap ((ai : Int) + 65536 - (lent : Int) - (bi : Int)) = (x : Int) := by rw [e1]; simp only [IntKind.wrap, IntKind.bits, IntKind.signed]; simp; omega
      have HX := Lib.hid hx
      have hlen2 : l.length ≤ 1000 := by have := HI.out.len; have := HN.out; omega
      have HLN := Lib.hid hlen2
      clear hx hlen2
      go_wp2_with (at_builtin; go_must (refine wpList_append_one (cs := uc) rfl _ _ 115 rfl 86 i30 _ 8 Tryz.underlying115 hi30 hz0 hz1 hz2 rfl (by decide) uc_len uc_one _ w.heap.size _ u5 l (x % 65536) _ (by simp [uc]) (by rfl) (by rfl) (by rfl) HO.out (by unfold maxLen; have := HLN.out; omega) (by have := HLN.out; omega) hbs ?_); intro v' w' hown' hg hat)
      go_roundw
      case rel => exact ⟨i + 1, 1 - x / 65536, l ++ [x % 65536], by omega, by go_num, by go_num, HI.out.step HAI.out hai2 hbi2 (.inl HBI.out) HX.out, hown', below_grown HBE.out HO.out hbs hg⟩
      case measure => simp [intOf]; omega
    · have g2 : ¬ (i : Int) < (b.length : Int) := by omega
      obtain ⟨x, hx⟩ : ∃ x : Nat, x + lent + 0 = ai + 65536 := ⟨ai + 65536 - lent, by omega⟩
      have e1 : (ai : Int) + 65536 - (lent : Int) = (x : Int) := by omega
      have HX := Lib.hid hx
      have hlen2 : l.length ≤ 1000 := by have := HI.out.len; have := HN.out; omega
      have HLN := Lib.hid hlen2
      clear hx hlen2
      go_wp2_with (at_builtin; go_must (refine wpList_append_one (cs := uc) rfl _ _ 115 rfl 86 i30 _ 8 Tryz.underlying115 hi30 hz0 hz1 hz2 rfl (by decide) uc_len uc_one _ w.heap.size _ u5 l (x % 65536) _ (by simp [uc]) (by rfl) (by rfl) (by rfl) HO.out (by unfold maxLen; have := HLN.out; omega) (by have := HLN.out; omega) hbs ?_); intro v' w' hown' hg hat)
      go_roundw
      case rel => exact ⟨i + 1, 1 - x / 65536, l ++ [x % 65536], by omega, by go_num, by go_num, HI.out.step HAI.out hai2 (by decide) (.inr ⟨by omega, rfl⟩) HX.out, hown', below_grown HBE.out HO.out hbs hg⟩
      case measure => simp [intOf]; omega
  · obtain rfl : i = a.length := by omega
    have hval : vl l = n - m := by
     have e0 := HI.out.val
     rw [List.take_length, take_over HLM.out, HVN.out, HVM.out] at e0
     have h1 := vl_lt l HI.out.dig
     rw [HI.out.len] at h1
     have h2 := HMN.out
     rcases (show lent = 0 ∨ lent = 1 by omega) with h3 | h3
     · subst h3; omega
     · subst h3; omega
    have HT := Lib.hid (trim_big u5 l (n - m) wr (by have := HI.out.len; have := HN.out; omega) HI.out.dig hval w.heap.size HO.out)
    clear hval
    go_wp2_with (go_at_call 108; refine HT.out.mono ?_; rintro e w' ⟨⟨A3, c3, rfl, hc3, hr3⟩, rfl⟩)
    go_ret
    exact ⟨⟨A3, c3, rfl, hc3, hr3⟩, HBE.out⟩

structure SInv (a b : List Nat) (i c : Nat) (l : List Nat) : Prop where
 len : l.length = i
 dig : ∀ x ∈ l, x < 65536
 carry : c ≤ 1
 val : vl (a.take i) + vl (b.take i) = vl l + 65536 ^ i * c
theorem SInv.step {a b l : List Nat} {i c x y z : Nat} (h : SInv a b i c l) (hx : x < 65536) (hy : y < 65536)
  (ha : (a[i]? = some x) ∨ (a.length ≤ i ∧ x = 0)) (hb : (b[i]? = some y) ∨ (b.length ≤ i ∧ y = 0)) (hz : z = c + x + y) : SInv a b (i + 1) (z / 65536) (l ++ [z % 65536]) where
 len := by rw [List.length_append, h.len]; rfl
 dig := mem_snoc h.dig (Nat.mod_lt _ (by decide))
 carry := by have := h.carry; omega
 val := by
  have e0 := h.val
  have ea : vl (a.take (i + 1)) = vl (a.take i) + 65536 ^ i * x := by
   rcases ha with ha | ⟨ha, rfl⟩
   · exact vl_take ha
   · rw [take_over (by omega), take_over ha]; simp
  have eb : vl (b.take (i + 1)) = vl (b.take i) + 65536 ^ i * y := by
   rcases hb with hb | ⟨hb, rfl⟩
   · exact vl_take hb
   · rw [take_over (by omega), take_over hb]; simp
  rw [ea, eb, vl_snoc, h.len, Nat.pow_succ]
  generalize 65536 ^ i = P at *
  have c1 : z % 65536 + 65536 * (z / 65536) = c + x + y := by omega
  have c2 : P * (z % 65536 + 65536 * (z / 65536)) = P * (c + x + y) := by rw [c1]
  rw [Nat.mul_add, Nat.mul_add, Nat.mul_add] at c2
  rw [Nat.mul_assoc P 65536]
  omega

set_option maxRecDepth 100000 in
set_option maxHeartbeats 6400000 in
theorem sum_any (n m : Nat) (A B : Option Addr) (ca cb : Nat) (w : World) (hn : (dg16 n).length ≤ 1000) (hm : (dg16 m).length ≤ 1000) (hA : RowOf uc 1 w w.heap.size A (dg16 n)) (hB : RowOf uc 1 w w.heap.size B (dg16 m)) :
  Calls Tryz.prog 86 #[.slice A (dg16 n).length ca, .slice B (dg16 m).length cb] w fun e w' => RetBig (n + m) e w' ∧ Below w.heap.size w w' := by
 obtain ⟨i30, hi30, hz0, hz1, hz2⟩ := info_split info30
 have HA := Lib.hid hA
 have HB := Lib.hid hB
 have HDN := Lib.hid (dg16_dig n)
 have HDM := Lib.hid (dg16_dig m)
 have HVN := Lib.hid (vl_dg16 n)
 have HVM := Lib.hid (vl_dg16 m)
 have HN := Lib.hid hn
 have HM := Lib.hid hm
 clear hA hB
 generalize dg16 n = a at *
 generalize dg16 m = b at *
 go_enter Tryz.func86, Tryz.ntmps86
 go_wp2_with fail
 go_loopw [5, 6, 7] (fun ov lv iv wr => ∃ (i c : Nat) (l : List Nat), (i ≤ a.length ∨ i ≤ b.length ∨ (c = 0 ∧ i ≤ max a.length b.length + 1)) ∧ i ≤ 1001 ∧ iv = .int .i64 i ∧ lv = .int .u64 c ∧ SInv a b i c l ∧ Own uc 1 86 wr w.heap.size ov l ∧ Below w.heap.size w wr) (fun _ _ iv _ => 1002 - (intOf iv).toNat)
 case atStart => exact ⟨0, 0, [], .inl (Nat.zero_le _), by omega, rfl, rfl, ⟨rfl, fun x hx => by (cases hx), by decide, by simp [vl]⟩, Own.nil_, Below.refl _ _⟩
 case round =>
  obtain ⟨i, c, l, hi, hi2, rfl, rfl, hI, hown, hb⟩ := hrel
  have HI := Lib.hid hI
  have HO := Lib.hid hown
  have HBE := Lib.hid hb
  have HII := Lib.hid hi
  have hl1 := hI.carry
  have hbs := hb.size
  have hlen2 : l.length ≤ 1001 := by have := hI.len; omega
  have HLN := Lib.hid hlen2
  clear hI hown hb hi hlen2
  -- what is added
  have hda : ∃ x, x < 65536 ∧ ((a[i]? = some x) ∨ (a.length ≤ i ∧ x = 0)) := by
   rcases Nat.lt_or_ge i a.length with h | h
   · obtain ⟨x, hx⟩ := get_some h
     exact ⟨x, HDN.out x (List.mem_of_getElem? hx), .inl hx⟩
   · exact ⟨0, by decide, .inr ⟨h, rfl⟩⟩
  have hdb : ∃ x, x < 65536 ∧ ((b[i]? = some x) ∨ (b.length ≤ i ∧ x = 0)) := by
   rcases Nat.lt_or_ge i b.length with h | h
   · obtain ⟨x, hx⟩ := get_some h
     exact ⟨x, HDM.out x (List.mem_of_getElem? hx), .inl hx⟩
   · exact ⟨0, by decide, .inr ⟨h, rfl⟩⟩
  obtain ⟨x, hx65, hdx⟩ := hda
  obtain ⟨y, hy65, hdy⟩ := hdb
  have HDX := Lib.hid hdx
  have HDY := Lib.hid hdy
  by_cases hla : i < a.length
  · have hai : a[i]? = some x := by rcases hdx with h | ⟨h, _⟩ <;> first | exact h | omega
    obtain ⟨ba, oa, rfl, _, hca⟩ := row_uc (HA.out.below HBE.out (Nat.le_refl _)) hai
    have g1 : (i : Int) < (a.length : Int) := by omega
    clear hdx hai
    by_cases hlb : i < b.length
    · have hbi : b[i]? = some y := by rcases hdy with h | ⟨h, _⟩ <;> first | exact h | omega
      obtain ⟨bb, ob, rfl, _, hcb⟩ := row_uc (HB.out.below HBE.out (Nat.le_refl _)) hbi
      have g2 : (i : Int) < (b.length : Int) := by omega
      clear hdy hbi
      obtain ⟨z, hz⟩ : ∃ z : Nat, z = c + x + y := ⟨_, rfl⟩
      have HZ := Lib.hid hz
      have e1 : (c : Int) + (x : Int) + (y : Int) = (z : Int) := by omega
      clear hz
      have hz65 : z ≤ 200000 := by have := HZ.out; omega
      go_wp2_with (at_builtin; go_must (refine wpList_append_one (cs := uc) rfl _ _ 115 rfl 86 i30 _ 8 Tryz.underlying115 hi30 hz0 hz1 hz2 rfl (by decide) uc_len uc_one _ w.heap.size _ u5 l (z % 65536) _ (by simp [uc]) (by rfl) (by rfl) (by rfl) HO.out (by unfold maxLen; have := HLN.out; omega) (by have := HLN.out; omega) hbs ?_); intro v' w' hown' hg hat)
      go_roundw
      case rel => exact ⟨i + 1, z / 65536, l ++ [z % 65536], .inl (by omega), by have := HN.out; omega, by go_num, by go_num, HI.out.step hx65 hy65 HDX.out HDY.out HZ.out, hown', below_grown HBE.out HO.out hbs hg⟩
      case measure => simp [intOf]; omega
    · obtain rfl : y = 0 := by
       rcases hdy with h | ⟨_, h⟩
       · rw [List.getElem?_eq_none (by omega)] at h; cases h
       · exact h
      have g2 : ¬ (i : Int) < (b.length : Int) := by omega
      clear hdy
      obtain ⟨z, hz⟩ : ∃ z : Nat, z = c + x + 0 := ⟨_, rfl⟩
      have HZ := Lib.hid hz
      have e1 : (c : Int) + (x : Int) = (z : Int) := by omega
      clear hz
      have hz65 : z ≤ 200000 := by have := HZ.out; omega
      go_wp2_with (at_builtin; go_must (refine wpList_append_one (cs := uc) rfl _ _ 115 rfl 86 i30 _ 8 Tryz.underlying115 hi30 hz0 hz1 hz2 rfl (by decide) uc_len uc_one _ w.heap.size _ u5 l (z % 65536) _ (by simp [uc]) (by rfl) (by rfl) (by rfl) HO.out (by unfold maxLen; have := HLN.out; omega) (by have := HLN.out; omega) hbs ?_); intro v' w' hown' hg hat)
      go_roundw
      case rel => exact ⟨i + 1, z / 65536, l ++ [z % 65536], .inl (by omega), by have := HN.out; omega, by go_num, by go_num, HI.out.step hx65 hy65 HDX.out HDY.out HZ.out, hown', below_grown HBE.out HO.out hbs hg⟩
      case measure => simp [intOf]; omega
  · obtain rfl : x = 0 := by
     rcases hdx with h | ⟨_, h⟩
     · rw [List.getElem?_eq_none (by omega)] at h; cases h
     · exact h
    have g1 : ¬ (i : Int) < (a.length : Int) := by omega
    clear hdx
    by_cases hlb : i < b.length
    · have hbi : b[i]? = some y := by rcases hdy with h | ⟨h, _⟩ <;> first | exact h | omega
      obtain ⟨bb, ob, rfl, _, hcb⟩ := row_uc (HB.out.below HBE.out (Nat.le_refl _)) hbi
      have g2 : (i : Int) < (b.length : Int) := by omega
      clear hdy hbi
      obtain ⟨z, hz⟩ : ∃ z : Nat, z = c + 0 + y := ⟨_, rfl⟩
      have HZ := Lib.hid hz
      have e1 : (c : Int) + (y : Int) = (z : Int) := by omega
      clear hz
      have hz65 : z ≤ 200000 := by have := HZ.out; omega
      go_wp2_with (at_builtin; go_must (refine wpList_append_one (cs := uc) rfl _ _ 115 rfl 86 i30 _ 8 Tryz.underlying115 hi30 hz0 hz1 hz2 rfl (by decide) uc_len uc_one _ w.heap.size _ u5 l (z % 65536) _ (by simp [uc]) (by rfl) (by rfl) (by rfl) HO.out (by unfold maxLen; have := HLN.out; omega) (by have := HLN.out; omega) hbs ?_); intro v' w' hown' hg hat)
      go_roundw
      case rel => exact ⟨i + 1, z / 65536, l ++ [z % 65536], .inr (.inl (by omega)), by have := HM.out; omega, by go_num, by go_num, HI.out.step hx65 hy65 HDX.out HDY.out HZ.out, hown', below_grown HBE.out HO.out hbs hg⟩
      case measure => simp [intOf]; omega
    · obtain rfl : y = 0 := by
       rcases hdy with h | ⟨_, h⟩
       · rw [List.getElem?_eq_none (by omega)] at h; cases h
       · exact h
      have g2 : ¬ (i : Int) < (b.length : Int) := by omega
      clear hdy
      by_cases hc : c = 0
      · subst hc
        have hval : vl l = n + m := by
         have e0 := HI.out.val
         rw [take_over (by omega), take_over (by omega), HVN.out, HVM.out] at e0
         omega
        have HT := Lib.hid (trim_big u5 l (n + m) wr (by have := HLN.out; omega) HI.out.dig hval w.heap.size HO.out)
        clear hval
        go_wp2_with (go_at_call 108; refine HT.out.mono ?_; rintro e w' ⟨⟨A3, c3, rfl, hc3, hr3⟩, rfl⟩)
        go_ret
        exact ⟨⟨A3, c3, rfl, hc3, hr3⟩, HBE.out⟩
      · obtain rfl : c = 1 := by omega
        have hi3 : i ≤ 1000 := by have h1 := HII.out; have h2 := HN.out; have h3 := HM.out; omega
        go_wp2_with (at_builtin; go_must (refine wpList_append_one (cs := uc) rfl _ _ 115 rfl 86 i30 _ 8 Tryz.underlying115 hi30 hz0 hz1 hz2 rfl (by decide) uc_len uc_one _ w.heap.size _ u5 l 1 _ (by simp [uc]) (by rfl) (by rfl) (by rfl) HO.out (by unfold maxLen; have := HLN.out; omega) (by have := HLN.out; omega) hbs ?_); intro v' w' hown' hg hat)
        go_roundw
        case rel => exact ⟨i + 1, 0, l ++ [1], .inr (.inr ⟨rfl, by have h1 := HII.out; omega⟩), by omega, by go_num, by first | rfl | go_num, HI.out.step hx65 hy65 HDX.out HDY.out rfl, hown', below_grown HBE.out HO.out hbs hg⟩
        case measure => simp [intOf]; omega
end

section
open Go.RowKit
set_option linter.unusedVariables false
set_option linter.unusedSimpArgs false
section
variable {P : Program} {α : Type} {cs : α → List Value} {sz : Nat}
theorem RowOf.flat (hs : ∀ x, (cs x).length = sz) (hsz : 0 < sz) {w : World} {B : Nat} {A : Option Addr} {l : List α} (h : RowOf cs sz w B A l) {q : Nat} {u : Value} (hq : (l.flatMap cs)[q]? = some u) :
  ∃ b off, A = some ⟨b, off, none⟩ ∧ b < B ∧ w.cell? ⟨b, off + q, none⟩ = some u := by
 have hlen : q < l.length * sz := by
  rw [← flat_len hs l]
  rcases Nat.lt_or_ge q (l.flatMap cs).length with h' | h'
  · exact h'
  · rw [List.getElem?_eq_none h'] at hq; cases hq
 have hi : q / sz < l.length := by rw [Nat.div_lt_iff_lt_mul hsz]; exact hlen
 have hj : q % sz < sz := Nat.mod_lt _ hsz
 obtain ⟨x, hx⟩ := get_some hi
 obtain ⟨b, off, hA, hB, hc⟩ := h (Nat.lt_of_le_of_lt (Nat.zero_le _) hi)
 have hv : (cs x)[q % sz]? = some ((cs x)[q % sz]'(by rw [hs]; exact hj)) := List.getElem?_eq_getElem _
 have hf := flat_at hs l (q / sz) x hx (q % sz) _ hv
 have he : q / sz * sz + q % sz = q := by rw [Nat.mul_comm]; exact Nat.div_add_mod q sz
 rw [he, hq] at hf
 have := hc (q / sz) x hx (q % sz) _ hv
 rw [Nat.add_assoc, he, ← hf] at this
 exact ⟨b, off, hA, hB, this⟩

theorem flat_one (hone1 : ∀ y, ∀ u ∈ cs y, u.oneCell' = true) (l : List α) : ∀ u ∈ l.flatMap cs, u.oneCell' = true := by
 intro u hu
 obtain ⟨x, _, hx⟩ := List.mem_flatMap.1 hu
 exact hone1 x u hx

theorem wpList_append_row {ops : Array Oper} {rest : List Oper} {o : Oper} {a : Act} {Q : Exit → Act → World → Prop} (hgd : o.guard = none) (s x : Operand) (t : TypeId)
  (ho : o.op = .call { callee := .builtin .append, args := #[s, x], argTypes := #[t, t] })
  (e : TypeId) (i : TypeInfo) (z : Value) (bytes : Nat) (ht : P.underlying t = some (.slice e)) (hi : P.info? e = some i) (hz : i.zero = some z)
  (hsize : i.size = sz) (hby : i.bytes = bytes) (hzs : z.cells.size = sz) (hsz : 0 < sz) (hone : ∀ y, (cs y).length = sz) (hone1 : ∀ y, ∀ u ∈ cs y, u.oneCell' = true)
  (W : World) (B B1 : Nat) (v : Value) (l l1 : List α) (A1 : Addr) (m c1 : Nat) (hs : a.eval s = v) (hx : a.eval x = .slice (some A1) m c1) (hm : m = l1.length)
  (hown : Own cs sz e W B v l) (hr : RowOf cs sz W B1 (some A1) l1) (h63 : l.length + l1.length ≤ maxLen) (hbytes : (l.length + l1.length) * bytes ≤ 140737488355328) (hbase : B ≤ W.heap.size)
  (h : ∀ v' w', Own cs sz e w' B v' (l ++ l1) → W.grownBy w' v.ownBlock → (v'.ownBlock = v.ownBlock ∨ v'.ownBlock = some W.heap.size) → wpList P ops Q rest (a.put o.dst v') w') :
  wpList P ops Q (o :: rest) a W := by
 subst hm
 refine wpList_append_own_at (w := W) hgd s x t ho B e i z sz bytes ht hi hz hsize hby hzs hsz v l.length (l.flatMap cs) hs hown A1 l1.length c1 (l1.flatMap cs) hx (flat_len hone l1)
  (fun j u hj => ?_) (flat_one hone1 l1) h63 hbytes hbase fun v' w' hown' hg _ hat => h v' w' ?_ hg hat
 · obtain ⟨b, off, hA, _, hc⟩ := hr.flat hone hsz hj
   injection hA with hA
   subst hA
   rw [Addr.add_lit]
   exact hc
 · unfold Own
   rw [List.length_append, List.flatMap_append]
   exact hown'
end
theorem uc_flat (z : List Nat) : z.flatMap uc = z.map fun (x : Nat) => Value.int .u64 (x : Int) := by
 induction z with
 | nil => rfl
 | cons x z ih => rw [List.flatMap_cons, ih]; rfl
/-- A row just made is the call's own. -/
theorem made_own {W : World} {z : List Nat} {g n : Nat} (hg : g = W.heap.size) (hn : n = z.length) (hz : n ≤ 1000000) : Own uc 1 86 (W.alloc (.cells (uv z) 86)) g (.slice (some ⟨g, 0, none⟩) n n) z := by
 subst hg hn
 refine ⟨flat_len uc_len z, .inr ⟨W.heap.size, z.length, uv z, rfl, Nat.le_refl _, heap_alloc_new W _, Nat.le_refl _, by unfold maxLen; omega, by simp [uv], ?_⟩⟩
 rw [uc_flat]
 simp only [uv]
 rw [Nat.mul_one, List.take_of_length_le (by simp)]
theorem vl_shift (k : Nat) (l : List Nat) : vl (List.replicate k 0 ++ l) = 65536 ^ k * vl l := by
 rw [vl_append, vl_zeros _ (fun x hx => by rw [List.mem_replicate] at hx; exact hx.2), List.length_replicate]; omega

set_option maxRecDepth 100000 in
set_option maxHeartbeats 3200000 in
theorem up_zero (k : Int) (A : Option Addr) (c : Nat) (w : World) : Calls Tryz.prog 113 #[.slice A 0 c, .int .i64 k] w fun e w' => RetBig 0 e w' ∧ Below w.heap.size w w' := by
 go_enter Tryz.func113, Tryz.ntmps113
 go_wp2_with fail
 go_ret
 exact ⟨⟨none, 0, by rw [dg16_zero]; rfl, by rw [dg16_zero]; exact Nat.le_refl _, by rw [dg16_zero]; exact RowOf.nil_⟩, Below.refl _ _⟩

set_option maxRecDepth 100000 in
set_option maxHeartbeats 3200000 in
theorem up_pos (n k : Nat) (A : Option Addr) (c : Nat) (w : World) (hn0 : n ≠ 0) (hnk : (dg16 n).length + k / 16 ≤ 900) (hA : RowOf uc 1 w w.heap.size A (dg16 n)) :
  Calls Tryz.prog 113 #[.slice A (dg16 n).length c, .int .i64 k] w fun e w' => RetBig (n * 2 ^ k) e w' ∧ Below w.heap.size w w' := by
 obtain ⟨i30, hi30, hz0, hz1, hz2⟩ := info_split info30
 have hn : (dg16 n).length ≤ 900 := by omega
 have hk : k ≤ 16000 := by omega
 have HNK := Lib.hid hnk
 clear hnk
 have HA := Lib.hid hA
 have hpos : 0 < (dg16 n).length := by rw [dg16_pos hn0]; simp
 obtain ⟨b, off, hAe, hbl, _⟩ := hA hpos
 subst hAe
 have HD := Lib.hid (dg16_dig n)
 have HV := Lib.hid (vl_dg16 n)
 have HN := Lib.hid hn
 have hne : ¬ ((dg16 n).length : Int) = 0 := by omega
 have hne2 : (((dg16 n).length : Int) == 0) = false := by simpa using hne
 clear hA hn0 hbl
 generalize dg16 n = l at *
 obtain ⟨z, hz⟩ : ∃ z, k / 16 = z := ⟨_, rfl⟩
 obtain ⟨j, hj⟩ : ∃ j, k % 16 = j := ⟨_, rfl⟩
 have hz1' : (k : Int) / 16 = (z : Int) := by omega
 have hj1 : (k : Int) % 16 = (j : Int) := by omega
 have hj2 : j < 16 := by omega
 have hmk := run_make_u64 z (by omega) (z : Int) rfl
 have HZ := Lib.hid hz
 have HJ := Lib.hid hj
 obtain ⟨J, hJ⟩ : ∃ J : Nat, 2 ^ j = J := ⟨_, rfl⟩
 have hJ2 : J < 65536 := by
  have : 2 ^ j < 2 ^ 16 := Nat.pow_lt_pow_right (by decide) hj2
  rw [hJ] at this; exact this
 have hsh : IntKind.u64.wrap ((2 : Int) ^ j) = (J : Int) := by
  have : ((2 : Int) ^ j) = (J : Int) := by rw [← hJ]; push_cast; rfl
  rw [this]; simp only [IntKind.wrap, IntKind.bits, IntKind.signed]; simp; omega
 have HJJ := Lib.hid hJ
 have hlJ : (dg16 J).length ≤ 1 := dg16_len 1 J (by simpa using hJ2)
 have HLJ := Lib.hid hlJ
 have HO := Lib.hid (of_big J (by omega))
 clear hz hj hJ hlJ
 go_enter Tryz.func113, Tryz.ntmps113
 go_wp2_with (at_builtin; go_must (refine wpList_append_row (cs := uc) (sz := 1) rfl _ _ 115 rfl 86 i30 _ 8 Tryz.underlying115 hi30 hz0 hz1 hz2 rfl (by decide) uc_len uc_one _ w.heap.size w.heap.size _ (List.replicate z 0) l _ l.length c (by rfl) (by rfl) rfl (made_own (z := List.replicate z 0) rfl (by simp) (by have := HZ.out; omega)) (HA.out.alloc (Nat.le_refl _) _) (by unfold maxLen; simp; have := HZ.out; have := HNK.out; omega) (by simp; have := HZ.out; have := HNK.out; omega) (by simp) ?_); intro v' w' hown' hg hat)
 obtain ⟨L, hL⟩ : ∃ L, List.replicate z 0 ++ l = L := ⟨_, rfl⟩
 have HLL := Lib.hid hL
 rw [hL] at hown'
 clear hL
 obtain ⟨A2, c2, rfl, hr2⟩ := hown'.row uc_len
 have hb2 : Below w.heap.size w w' := below_grown ((Below.refl _ _).alloc (Nat.le_refl _) _) (made_own (z := List.replicate z 0) rfl (by simp) (by have := HZ.out; omega)) (by simp) hg
 have HB2 := Lib.hid hb2
 have HR2 := Lib.hid hr2
 clear hb2 hr2 hown' hg hat
 refine (HO.out w').mono ?_
 rintro e w3 ⟨⟨A3, c3, rfl, hc3, hr3⟩, hb3⟩
 have hLl : L.length ≤ 1000 := by rw [← HLL.out]; simp; have := HZ.out; have := HNK.out; omega
 have hLd : ∀ x ∈ L, x < 65536 := fun x hx => by
  rw [← HLL.out] at hx
  rcases List.mem_append.1 hx with h | h
  · rw [List.mem_replicate] at h; omega
  · exact HD.out x h
 have hval : vl L * vl (dg16 J) = n * 2 ^ k := by
  rw [← HLL.out, vl_shift, HV.out, vl_dg16, ← HJJ.out]
  have : k = 16 * z + j := by have := HZ.out; have := HJ.out; omega
  rw [this, Nat.pow_add, Nat.pow_mul]
  rw [show (2 : Nat) ^ 16 = 65536 by decide]; ac_rfl
 have HT := times_any A2 A3 c2 c3 L (dg16 J) w3 hLl (by have := HLJ.out; omega) (HR2.out.after (Nat.le_refl _) hb3) hr3 hLd (dg16_dig J)
 rw [hval] at HT
 replace HT := Lib.hid HT
 clear hval hLl hLd
 have HB3 := Lib.hid (below_then HB2.out hb3)
 clear hb3 hr3
 go_wp2_with fail
 refine HT.out.mono ?_
 rintro e w4 ⟨⟨A4, c4, rfl, hc4, hr4⟩, hb4⟩
 have HB4 := Lib.hid (below_then HB3.out hb4)
 have HR4 := Lib.hid hr4
 have HC4 := Lib.hid hc4
 clear hr4 hc4 hb4
 go_wp2_with fail
 go_ret
 exact ⟨⟨A4, c4, rfl, HC4.out, HR4.out⟩, HB4.out⟩

theorem up_big (n k : Nat) (A : Option Addr) (c : Nat) (w : World) (hn : (dg16 n).length + k / 16 ≤ 900) (hA : RowOf uc 1 w w.heap.size A (dg16 n)) :
  Calls Tryz.prog 113 #[.slice A (dg16 n).length c, .int .i64 k] w fun e w' => RetBig (n * 2 ^ k) e w' ∧ Below w.heap.size w w' := by
 by_cases h : n = 0
 · subst h
   rw [dg16_zero, Nat.zero_mul]
   exact up_zero k A c w
 · exact up_pos n k A c w h hn hA

/-- A call hands back two numbers. -/
def RetBig2 (n m : Nat) (e : Ending) (w : World) : Prop := ∃ A c B d, e = .returned (.tuple #[.slice A (dg16 n).length c, .slice B (dg16 m).length d]) ∧ RowOf uc 1 w w.heap.size A (dg16 n) ∧ RowOf uc 1 w w.heap.size B (dg16 m)
set_option maxRecDepth 100000 in
set_option maxHeartbeats 3200000 in
theorem scaled_up (p q k : Nat) (A B : Option Addr) (ca cb : Nat) (w : World) (hp : (dg16 p).length + k / 16 ≤ 900) (hk : k ≤ 8000) (hA : RowOf uc 1 w w.heap.size A (dg16 p)) (hB : RowOf uc 1 w w.heap.size B (dg16 q)) :
  Calls Tryz.prog 110 #[.slice A (dg16 p).length ca, .slice B (dg16 q).length cb, .int .i64 k] w fun e w' => RetBig2 (p * 2 ^ k) q e w' ∧ Below w.heap.size w w' := by
 have HU := Lib.hid (up_big p k A ca w hp hA)
 have HB := Lib.hid hB
 clear hA hB
 go_enter Tryz.func110, Tryz.ntmps110
 go_wp2_with (go_at_call 113; refine HU.out.mono ?_; rintro e w1 ⟨⟨A1, c1, rfl, hc1, hr1⟩, hb1⟩)
 go_ret2
 exact ⟨⟨A1, c1, B, cb, rfl, hr1, HB.out.after (Nat.le_refl _) hb1⟩, hb1⟩
set_option maxRecDepth 100000 in
set_option maxHeartbeats 3200000 in
theorem scaled_dn (p q m : Nat) (k : Int) (hkm : -k = (m : Int)) (hk0 : k < 0) (A B : Option Addr) (ca cb : Nat) (w : World) (hq : (dg16 q).length + m / 16 ≤ 900) (hk : m ≤ 8000) (hA : RowOf uc 1 w w.heap.size A (dg16 p)) (hB : RowOf uc 1 w w.heap.size B (dg16 q)) :
  Calls Tryz.prog 110 #[.slice A (dg16 p).length ca, .slice B (dg16 q).length cb, .int .i64 k] w fun e w' => RetBig2 p (q * 2 ^ m) e w' ∧ Below w.heap.size w w' := by
 have HU := Lib.hid (up_big q m B cb w hq hB)
 have HA := Lib.hid hA
 have h1 : ¬ 0 ≤ k := by omega
 have h2 : -8000 ≤ k := by omega
 have h3 : IntKind.i64.wrap (-k) = (m : Int) := by rw [hkm]; simp only [IntKind.wrap, IntKind.bits, IntKind.signed]; simp; omega
 clear hA hB
 go_enter Tryz.func110, Tryz.ntmps110
 go_wp2_with (go_at_call 113; refine HU.out.mono ?_; rintro e w1 ⟨⟨A1, c1, rfl, hc1, hr1⟩, hb1⟩)
 go_ret2
 exact ⟨⟨A, ca, A1, c1, rfl, HA.out.after (Nat.le_refl _) hb1, hr1⟩, hb1⟩
theorem scaled_any (p q : Nat) (k : Int) (A B : Option Addr) (ca cb : Nat) (w : World) (hp : (dg16 p).length + k.toNat / 16 ≤ 900) (hq : (dg16 q).length + (-k).toNat / 16 ≤ 900) (hk : -8000 ≤ k) (hk2 : k ≤ 8000) (hA : RowOf uc 1 w w.heap.size A (dg16 p)) (hB : RowOf uc 1 w w.heap.size B (dg16 q)) :
  Calls Tryz.prog 110 #[.slice A (dg16 p).length ca, .slice B (dg16 q).length cb, .int .i64 k] w fun e w' => RetBig2 (p * 2 ^ k.toNat) (q * 2 ^ (-k).toNat) e w' ∧ Below w.heap.size w w' := by
 by_cases h : 0 ≤ k
 · obtain ⟨m, rfl⟩ : ∃ m : Nat, k = (m : Int) := ⟨k.toNat, by omega⟩
   have := scaled_up p q m A B ca cb w (by omega) (by omega) hA hB
   rwa [show ((m : Int)).toNat = m by omega, show (-(m : Int)).toNat = 0 by omega, Nat.pow_zero, Nat.mul_one]
 · have := scaled_dn p q (-k).toNat k (by omega) (by omega) A B ca cb w hq (by omega) hA hB
   rwa [show k.toNat = 0 by omega, Nat.pow_zero, Nat.mul_one]

theorem dg16_get (n i d : Nat) (h : (dg16 n)[i]? = some d) : d = n / 65536 ^ i % 65536 := by
 induction i generalizing n with
 | zero =>
  by_cases h0 : n = 0
  · subst h0; rw [dg16_zero] at h; cases h
  · rw [dg16_pos h0] at h; simp at h; simp [h.symm]
 | succ i ih =>
  by_cases h0 : n = 0
  · subst h0; rw [dg16_zero] at h; cases h
  · rw [dg16_pos h0] at h; simp at h
    rw [ih _ h, Nat.pow_succ, Nat.mul_comm, Nat.div_div_eq_div_mul]
theorem low_bit (x j : Nat) (hj : j < 16) : x % 65536 / 2 ^ j % 2 = x / 2 ^ j % 2 := by
 have h := Nat.testBit_mod_two_pow x 16 j
 rw [show (2 : Nat) ^ 16 = 65536 by decide] at h
 rw [Nat.testBit_eq_decide_div_mod_eq, Nat.testBit_eq_decide_div_mod_eq, decide_eq_true hj, Bool.true_and] at h
 have h2 := decide_eq_decide.1 h
 omega

/-- As many digits, of two, as a number has. -/
def BitsOf (n b : Nat) : Prop := n < 2 ^ b ∧ (n ≠ 0 → 1 ≤ b ∧ 2 ^ (b - 1) ≤ n)
set_option maxRecDepth 100000 in
set_option maxHeartbeats 3200000 in
theorem bits_any (n : Nat) (A : Option Addr) (c : Nat) (w : World) (hn : (dg16 n).length ≤ 1000) (hA : RowOf uc 1 w w.heap.size A (dg16 n)) :
  Calls Tryz.prog 109 #[.slice A (dg16 n).length c] w fun e w' => (∃ b : Nat, e = .returned (.int .i64 b) ∧ b ≤ 16000 ∧ BitsOf n b) ∧ Below w.heap.size w w' := by
 have HA := Lib.hid hA
 have hlt := dg16_lt n
 rw [show (65536 : Nat) = 2 ^ 16 by decide, ← Nat.pow_mul] at hlt
 have HL := Lib.hid hlt
 have HG := Lib.hid (dg16_get n)
 clear hA hlt
 generalize dg16 n = l at *
 go_enter Tryz.func109, Tryz.ntmps109
 go_wp2_with fail
 go_loopw [3] (fun kv wr => ∃ (k : Nat), k ≤ 16 * l.length ∧ kv = .int .i64 k ∧ n < 2 ^ k ∧ Below w.heap.size w wr) (fun kv _ => (intOf kv).toNat)
 case atStart => exact ⟨16 * l.length, Nat.le_refl _, by go_num, HL.out, Below.refl _ _⟩
 case round =>
  obtain ⟨k, hk, rfl, hnk, hb⟩ := hrel
  have HK := Lib.hid hnk
  have HB := Lib.hid hb
  clear hnk hb
  by_cases h0 : k = 0
  · subst h0
    have HZ := Lib.hid (show n = 0 by have := HK.out; simpa using this)
    go_wp2_with fail
    go_ret
    exact ⟨⟨0, rfl, by omega, HK.out, fun h => absurd HZ.out h⟩, HB.out⟩
  · obtain ⟨p, rfl⟩ : ∃ p, k = p + 1 := ⟨k - 1, by omega⟩
    obtain ⟨i, hi⟩ : ∃ i, p / 16 = i := ⟨_, rfl⟩
    obtain ⟨j, hj⟩ : ∃ j, p % 16 = j := ⟨_, rfl⟩
    have hj16 : j < 16 := by omega
    have hil : i < l.length := by omega
    obtain ⟨d, hd⟩ := get_some hil
    obtain ⟨b, off, rfl, _, hc⟩ := row_uc (HA.out.below HB.out (Nat.le_refl _)) hd
    have hdv := HG.out i d hd
    have hbit : d / 2 ^ j % 2 = n / 2 ^ p % 2 := by
     rw [hdv, low_bit _ _ hj16, Nat.div_div_eq_div_mul, show (65536 : Nat) = 2 ^ 16 by decide, ← Nat.pow_mul, ← Nat.pow_add, show 16 * i + j = p by omega]
    have hi1 : (p : Int) / 16 = (i : Int) := by omega
    have hj1 : (p : Int) % 16 = (j : Int) := by omega
    have e1 : ((p + 1 : Nat) : Int) - 1 = (p : Int) := by omega
    have g0 : (0 : Int) ≤ (i : Int) := by omega
    have g1 : (i : Int) < (l.length : Int) := by omega
    have HI := Lib.hid hi
    have HJ := Lib.hid hj
    obtain ⟨D, hD⟩ : ∃ D : Nat, d / 2 ^ j = D := ⟨_, rfl⟩
    have hD1 : (d : Int) / 2 ^ j = (D : Int) := by rw [← hD]; push_cast; rfl
    rw [hD] at hbit
    have HBIT := Lib.hid hbit
    have hg2 : (0 : Int) ≤ (D : Int) := by omega
    clear hi hj hd hdv hbit hD
    by_cases hz : D % 2 = 0
    · have hb1 : ((D : Int) % 2 == 0) = true := by simp; omega
      have hb2 : (D : Int) % 2 = 0 := by omega
      have HZ := Lib.hid hz
      clear hz
      go_wp2_with fail
      refine ⟨⟨p, by omega, rfl, ?_, HB.out⟩, by simp [intOf]⟩
      have h1 := HK.out
      have h2 := HBIT.out
      have h3 := HZ.out
      have h4 : n / 2 ^ p < 2 := by rw [Nat.div_lt_iff_lt_mul (Nat.two_pow_pos p), Nat.mul_comm, ← Nat.pow_succ]; exact h1
      have h5 : n / 2 ^ p = 0 := by
       generalize n / 2 ^ p = z at *
       omega
      exact (Nat.div_eq_zero_iff.1 h5).resolve_left (by have := Nat.two_pow_pos p; omega)
    · have hb1 : ((D : Int) % 2 == 0) = false := by simp; omega
      have HZ := Lib.hid hz
      clear hz
      go_wp2_with fail
      go_ret
      refine ⟨⟨p + 1, rfl, by omega, HK.out, fun _ => ⟨by omega, ?_⟩⟩, HB.out⟩
      have h2 := HBIT.out
      have h3 := HZ.out
      have h5 : n / 2 ^ p ≠ 0 := by
       generalize n / 2 ^ p = z at *
       omega
      rcases Nat.lt_or_ge n (2 ^ p) with h6 | h6
      · exact absurd (Nat.div_eq_of_lt h6) h5
      · simpa using h6
end
end Go.Proofs.YtclbmmiedihepaaGreatDoor
