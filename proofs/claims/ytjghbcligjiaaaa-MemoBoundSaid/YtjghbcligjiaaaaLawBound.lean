/- MemoBound's walk. -/
import Derived.Test.YtjghbcligjiaaaaAwake
import Derived.Test.YtjghbcligjiaaaaCount
import Derived.Test.YtjghbcligjiaaaaRead
import Derived.StillTailTactics
namespace Go.Proofs.Ytjghbcligjiaaaa
open Go.RowKit Go.Maps Go.Sort Go.MuLone
set_option linter.unusedVariables false
set_option linter.unusedSimpArgs false
theorem bound_none (w : World) (most : Int) (av : Value) (h : most < 1 ∨ 64 < most) : Calls Try.prog 5 #[.int .i64 most, av] w fun e w' => e = .returned (.bool true) ∧ Below w.heap.size w w' := by
  have HN := Lib.hid (New_noneI most w h)
  rcases h with h | h
  · go_enter Try.func5, Try.ntmps5
    go_wp2_with (go_at_call 8; refine HN.out.mono ?_; rintro e w1 ⟨rfl, rfl⟩)
    refine (awake_any _).mono ?_
    rintro e w2 ⟨rfl, hb⟩
    go_wp2_with fail
    go_ret
    exact ⟨rfl, hb⟩
  · have h1 : ¬ most < 1 := by omega
    go_enter Try.func5, Try.ntmps5
    go_wp2_with (go_at_call 8; refine HN.out.mono ?_; rintro e w1 ⟨rfl, rfl⟩)
    refine (awake_any _).mono ?_
    rintro e w2 ⟨rfl, hb⟩
    go_wp2_with fail
    go_ret
    exact ⟨rfl, hb⟩
set_option maxRecDepth 100000 in
set_option maxHeartbeats 3200000 in
theorem lawBound (w : World) (n : Nat) (h1 : 1 ≤ n) (h2 : n ≤ 64) (A0 : Option Addr) (c0 : Nat) (l : List Act1) (hl : l.length ≤ 9223372036854775807) (hr : RowOf Act1.cells 4 w w.heap.size A0 l) (hg : ∀ a ∈ l, a.good) :
    Calls Try.prog 5 #[.int .i64 (n : Int), .slice A0 l.length c0] w fun e w' => e = .returned (.bool true) ∧ Below w.heap.size w w' := by
  have HN := Lib.hid (NewHI n w h1 h2)
  have HR := Lib.hid hr
  have HG := Lib.hid hg
  clear hr hg
  go_enter Try.func5, Try.ntmps5
  go_wp2_with (go_at_call 8; refine HN.out.mono ?_; rintro e w1 ⟨m, F0, rfl, h3, h4, h5⟩; have HI := Lib.hid (BInv.mk (n := n) (k := 0) h3 h4 h5 rfl (Nat.zero_le _) ⟨Nat.zero_le _, Nat.zero_le _, fun p hp => by cases hp⟩); clear h3 h4 h5)
  go_loopw [6] (fun i wr => ∃ (k : Nat) (A : AS Int) (F : List Nat), i = .int .i64 k ∧ k ≤ l.length ∧ k ≤ 200 ∧ BInv w n m k A F wr) (fun i _ => l.length - (intOf i).toNat)
  case atStart => exact ⟨0, _, _, rfl, Nat.zero_le _, Nat.zero_le _, HI.out⟩
  case round =>
    obtain ⟨k, A, F, rfl, hk, hk2, hinv⟩ := hrel
    have HV := Lib.hid hinv
    clear hinv HI
    by_cases hlt : k < l.length
    · by_cases hlt2 : k < 200
      · obtain ⟨a, ha⟩ : ∃ a, l[k]? = some a := ⟨_, List.getElem?_eq_getElem hlt⟩
        obtain ⟨b, off, rfl, hbw, d0, d1, d2, d3⟩ := act_at (HR.out.below HV.out.below (Nat.le_refl _)) ha
        have hgd := HG.out a (List.mem_of_getElem? ha)
        have HGD := Lib.hid hgd
        have HA := Lib.hid ha
        clear ha hgd
        by_cases hw : Int.tmod a.what 3 = 0
        · go_wp2_with fail
          have y1 : ∀ t d s o, ({ heap := wr.heap, tape := t, drawn := d, os := s, output := o } : World).cell? ⟨b, off + k * 4 + 1, none⟩ = some (.int .i64 a.who) := fun _ _ _ _ => d1
          have y3 : ∀ t d s o, ({ heap := wr.heap, tape := t, drawn := d, os := s, output := o } : World).cell? ⟨b, off + k * 4 + 3, none⟩ = some (.string a.key) := fun _ _ _ _ => d3
          go_still_tail 11, (by kernel_rfl)
          change wpList _ _ _ _ _ (wr).drew
          clear y1 y3
          go_wp2_with fail
          refine (AskHI a.key a.who (HV.out.same (w' := wr.drew) rfl rfl rfl rfl).held (by have := HV.out.most; omega) HGD.out.2.2.2 (HV.out.sm.mono (by omega))).mono ?_
          rintro e w2 ⟨rfl, F2, h3, h4, h5⟩
          obtain ⟨A2, hA2⟩ : ∃ A2, (askA A a.key a.who).1 = A2 := ⟨_, rfl⟩
          have hi2 := (HV.out.same (w' := wr.drew) rfl rfl rfl rfl).ask h3 h4 h5
          rw [hA2] at hi2
          have HI2 := Lib.hid hi2
          clear hi2 h3 h4 h5 hA2
          generalize askOut Ti (askA A a.key a.who).2 = rv
          go_wp2_with fail
          refine (KeptHI HI2.out.held (by have := HI2.out.most; omega) (HI2.out.sm.mono (by omega))).mono ?_
          rintro e w3 ⟨vk, rfl, hr3, hq3, hh3, ho3⟩
          obtain ⟨K, hK⟩ : ∃ K, keys A2.kept = K := ⟨_, rfl⟩
          rw [hK] at hr3
          obtain ⟨Ak, ck, rfl, hmk⟩ := hr3.len
          rw [List.length_map] at hr3 hq3 hmk ⊢
          have hkn : K.length ≤ n := by rw [← hK]; unfold keys; rw [List.length_map]; exact HI2.out.kept
          have hk63 : K.length ≤ 9223372036854775807 := by omega
          have HI3 := Lib.hid (HI2.out.only hh3 ho3)
          have HR3 := Lib.hid hr3
          have HQ3 := Lib.hid hq3
          have HK := Lib.hid hK
          clear hr3 hq3 hh3 ho3 hK hmk
          go_wp2_with fail
          refine (MakingHI HI3.out.held (by have := HI3.out.most; omega) (HI3.out.sm.mono (by omega))).mono ?_
          rintro e w4 ⟨vm, rfl, hr4, hq4, hh4, ho4⟩
          obtain ⟨M, hM⟩ : ∃ M, keys A2.making = M := ⟨_, rfl⟩
          rw [hM] at hr4
          obtain ⟨Am, cm, rfl, hmm⟩ := hr4.len
          rw [List.length_map] at hr4 hq4 hmm ⊢
          have hmn : M.length ≤ 201 := by rw [← hM]; unfold keys; rw [List.length_map]; have := HI2.out.sm.making; omega
          have hm63 : M.length ≤ 9223372036854775807 := by omega
          have hr3 := HR3.out.other ho4 (fun q hq hm => by have := HI2.out.held.lt q hm; have := HQ3.out q hq; omega)
          have HI4 := Lib.hid (HI3.out.only hh4 ho4)
          have HR4 := Lib.hid hr4
          have HR34 := Lib.hid hr3
          have HM := Lib.hid hM
          clear hr4 hq4 hh4 ho4 hM hr3 hmm HR3 HQ3
          have hgt : ¬ (n : Int) < (K.length : Int) := by omega
          have m1 : ∀ w : World, (Instr.makeMap 49 none).run Try.prog w = .ok (.map (some w.heap.size)) (w.alloc (.map #[] 0)) := fun w => by simp [Instr.makeMap, run_underlying Try.underlying49]
          go_wp2_with fail
          have hc5 := CMap.made w4
          have hi5 := HI4.out.later (w' := w4.alloc (.map #[] 0)) (G := []) alloc_only (fun b hb => by cases hb)
          have hr5 := HR34.out.keep (w' := w4.alloc (.map #[] 0)) (fun q hq => Go.heap_alloc_old w4 _ (HR34.out.lt q hq))
          have hs5 := HR4.out.keep (w' := w4.alloc (.map #[] 0)) (fun q hq => Go.heap_alloc_old w4 _ (HR4.out.lt q hq))
          have hrl := fun q hq => HR34.out.lt q hq
          have hsl := fun q hq => HR4.out.lt q hq
          obtain ⟨bt, hbt⟩ : ∃ bt, w4.heap.size = bt := ⟨_, rfl⟩
          have hge : w.heap.size ≤ bt := by have := HI4.out.below.size; omega
          have hbl : bt < (w4.alloc (.map #[] 0)).heap.size := by rw [World.size_alloc]; omega
          have hoff : ∀ q ∈ F2, q ≠ bt := fun q hq => by have := HI4.out.held.lt q hq; omega
          have hko : KM (keys A2.kept) (keys A2.making) := HI2.out.keysOk
          rw [HK.out, HM.out] at hko
          generalize w4.alloc (.map #[] 0) = w5 at hc5 hi5 hr5 hs5 hbl ⊢
          rw [hbt] at hc5 hrl hsl ⊢
          have HC5 := Lib.hid hc5
          have HI5 := Lib.hid hi5
          have HR5 := Lib.hid hr5
          have HS5 := Lib.hid hs5
          have HRL := Lib.hid hrl
          have HSL := Lib.hid hsl
          have HOFF := Lib.hid hoff
          have HKO := Lib.hid hko
          have HBL := Lib.hid hbl
          have HGE := Lib.hid hge
          clear hc5 hi5 hr5 hs5 hrl hsl hoff hko m1 hbl hbt hge HR34 HR4 HI3 HI4 hgt
          go_loopw [10] (fun i wq => ∃ j : Nat, i = .int .i64 j ∧ j ≤ K.length ∧ CMap wq bt (K.take j) ∧ Only [bt] w5 wq) (fun i _ => K.length - (intOf i).toNat)
          case atStart => exact ⟨0, rfl, Nat.zero_le _, HC5.out, Only.refl _ _⟩
          case round =>
            obtain ⟨j, rfl, hj, hcm, hon⟩ := hrel
            by_cases hjl : j < K.length
            · obtain ⟨s, hs⟩ : ∃ s, K[j]? = some s := ⟨_, List.getElem?_eq_getElem hjl⟩
              have hrw := HR5.out.other hon (fun q hq hm => by simp at hm; have := HRL.out q hq; omega)
              have hnK : K.map Value.string ≠ [] := by intro e; simp at e; rw [e] at hjl; simp at hjl
              obtain ⟨bk, ok, capk, hvk, hx1, hx2, hck, hx3⟩ := hrw.form hnK
              simp only [Value.slice.injEq] at hvk
              obtain ⟨rfl, hx4, rfl⟩ := hvk
              have hcell := hck j (.string s) (by simp [hs])
              have hsz := HKO.out.skept s (List.mem_of_getElem? hs)
              have hni : s ∉ K.take j := nodup_take HKO.out.kept hs
              have hlk := hcm.look0 hsz hni
              obtain ⟨D, hD, hT⟩ := hcm
              have hlen : (K.take j).length = j := by rw [List.length_take]; omega
              have HD := Lib.hid hD
              have HT := Lib.hid hT
              have HON := Lib.hid hon
              have HS := Lib.hid hs
              have HNI := Lib.hid hni
              have HSZ := Lib.hid hsz
              have HLEN := Lib.hid hlen
              clear hD hT hon hs hni hsz hrw hnK hck hlen hx1 hx2 hx3 hx4
              go_wp2_with (at_mapUpdate; go_must (refine wpList_mapUpdate_in _ rfl _ _ _ 49 rfl 9 3 law9 Try.underlying49 (plainElem Try.prog 3) bt (K.take j).length D rfl HD.out (by rw [HLEN.out]; unfold maxLen; omega) (.string s) (.int .i64 1) (litS s) rfl rfl (key9 HSZ.out) (.lit (.int .i64 1)) [] (plainElem_int Try.underlying3 (by decide)) ?_; intro w6 ho6 ht6; have HO6 := Lib.hid ho6; have HT6 := Lib.hid ht6; clear ho6 ht6))
              go_roundw
              case rel => exact ⟨j + 1, by go_num, by omega, by rw [take_succ_at HS.out]; exact CMap.put HT.out HNI.out HO6.out, HON.out.trans (turned_only HT6.out (by simp))⟩
              case measure => simp only [intOf]; omega
            · have hje : j = K.length := by omega
              subst hje
              rw [List.take_length] at hcm
              have HCM := Lib.hid hcm
              have HON := Lib.hid hon
              clear hcm hon
              have hi6 := HI5.out.aside HON.out (fun q hq => by simp at hq; subst hq; exact ⟨fun hm => HOFF.out _ hm rfl, HGE.out⟩)
              have hs6 := HS5.out.other HON.out (fun q hq hm => by simp at hm; have := HSL.out q hq; omega)
              have hbl6 : bt < wr.heap.size := Nat.lt_of_lt_of_le HBL.out HON.out.size
              have HI6 := Lib.hid hi6
              have HS6 := Lib.hid hs6
              have HBL6 := Lib.hid hbl6
              clear hi6 hs6 hbl6 HON HI5 HS5 HBL HR5 HC5 HRL
              go_wp2_with fail
              go_loopw [11] (fun i wq => ∃ j : Nat, i = .int .i64 j ∧ j ≤ M.length ∧ CMap wq bt (K ++ M.take j) ∧ Only [bt] wr wq) (fun i _ => M.length - (intOf i).toNat)
              case atStart => exact ⟨0, rfl, Nat.zero_le _, by simpa using HCM.out, Only.refl _ _⟩
              case round =>
                obtain ⟨j, rfl, hj, hcm, hon⟩ := hrel
                by_cases hjl : j < M.length
                · obtain ⟨s, hs⟩ : ∃ s, M[j]? = some s := ⟨_, List.getElem?_eq_getElem hjl⟩
                  have hrw := HS6.out.other hon (fun q hq hm => by simp at hm; have := HSL.out q hq; omega)
                  have hnK : M.map Value.string ≠ [] := by intro e; simp at e; rw [e] at hjl; simp at hjl
                  obtain ⟨bk, ok, capk, hvk, hx1, hx2, hck, hx3⟩ := hrw.form hnK
                  simp only [Value.slice.injEq] at hvk
                  obtain ⟨rfl, hx4, rfl⟩ := hvk
                  have hcell := hck j (.string s) (by simp [hs])
                  have hsz := HKO.out.smaking s (List.mem_of_getElem? hs)
                  have hni : s ∉ K ++ M.take j := fun hm => by
                    rcases List.mem_append.1 hm with hm | hm
                    · exact HKO.out.apart s hm (List.mem_of_getElem? hs)
                    · exact nodup_take HKO.out.making hs hm
                  have hlk := hcm.look0 hsz hni
                  obtain ⟨D, hD, hT⟩ := hcm
                  have hlen : (K ++ M.take j).length = K.length + j := by rw [List.length_append, List.length_take]; omega
                  have HD := Lib.hid hD
                  have HT := Lib.hid hT
                  have HON := Lib.hid hon
                  have HS := Lib.hid hs
                  have HNI := Lib.hid hni
                  have HSZ := Lib.hid hsz
                  have HLEN := Lib.hid hlen
                  clear hD hT hon hs hni hsz hrw hnK hck hlen hx1 hx2 hx3 hx4
                  go_wp2_with (at_mapUpdate; go_must (refine wpList_mapUpdate_in _ rfl _ _ _ 49 rfl 9 3 law9 Try.underlying49 (plainElem Try.prog 3) bt (K ++ M.take j).length D rfl HD.out (by rw [HLEN.out]; unfold maxLen; omega) (.string s) (.int .i64 1) (litS s) rfl rfl (key9 HSZ.out) (.lit (.int .i64 1)) [] (plainElem_int Try.underlying3 (by decide)) ?_; intro w6 ho6 ht6; have HO6 := Lib.hid ho6; have HT6 := Lib.hid ht6; clear ho6 ht6))
                  go_roundw
                  case rel => exact ⟨j + 1, by go_num, by omega, by rw [take_succ_at HS.out, ← List.append_assoc]; exact CMap.put HT.out HNI.out HO6.out, HON.out.trans (turned_only HT6.out (by simp))⟩
                  case measure => simp only [intOf]; omega
                · have hje : j = M.length := by omega
                  subst hje
                  rw [List.take_length] at hcm
                  have hi7 := HI6.out.aside hon (fun q hq => by simp at hq; subst hq; exact ⟨fun hm => HOFF.out _ hm rfl, HGE.out⟩)
                  have hlen := hcm.len 3
                  have hll : (K ++ M).length = K.length + M.length := List.length_append
                  have HCM := Lib.hid hcm
                  have HI7 := Lib.hid hi7
                  have HON := Lib.hid hon
                  obtain ⟨b9, o9, e9, _, _, _, _, d9⟩ := act_at (HR.out.below hi7.below (Nat.le_refl _)) HA.out
                  simp only [Option.some.injEq, Addr.mk.injEq, and_true] at e9
                  obtain ⟨rfl, rfl⟩ := e9
                  clear hcm hon hi7
                  have hbl7 : bt < wr.heap.size := Nat.lt_of_lt_of_le HBL6.out HON.out.size
                  have HBL7 := Lib.hid hbl7
                  clear hbl7
                  go_wp2_with fail
                  refine (WaitingHI a.key HI7.out.held HGD.out.2.2.2 (by have := HI7.out.most; omega) (HI7.out.sm.mono (by omega))).mono ?_
                  rintro e w8 ⟨vw, rfl, hr8, hq8, hh8, ho8⟩
                  have hi8 := HI7.out.only hh8 ho8
                  have hcm8 := HCM.out.keep (ho8.block bt HBL7.out (fun hm => HOFF.out _ hm rfl))
                  obtain ⟨L, hL⟩ : ∃ L, waitA A2 a.key = L := ⟨_, rfl⟩
                  rw [hL] at hr8
                  obtain ⟨Aw, cw, rfl, hmw⟩ := hr8.len
                  rw [List.length_map] at hmw ⊢
                  have HI8 := Lib.hid hi8
                  clear hr8 hq8 hh8 ho8 hi8
                  have hlw : L.length ≤ 9223372036854775807 := by unfold maxLen at hmw; exact hmw
                  by_cases hL0 : L.length = 0
                  · have hgl : ¬ (0 : Int) < (L.length : Int) := by omega
                    clear hcm8 hL
                    go_wp2_with fail
                    go_roundw
                    case rel => exact ⟨k + 1, A2, F2, by go_num, by omega, by omega, HI8.out⟩
                    case measure => simp only [intOf]; omega
                  · have hgl : (0 : Int) < (L.length : Int) := by omega
                    have hmem : a.key ∈ K ++ M := List.mem_append_right _ (by rw [← HM.out]; exact waitA_mem a.key (fun e => hL0 (by rw [← hL, e]; rfl)))
                    have hlk := hcm8.look1 HGD.out.2.2.2 hmem
                    have d10 := d9
                    clear hcm8 hL hmem d10
                    obtain ⟨b9, o9, e9, _, _, _, _, d11⟩ := act_at (HR.out.below HI8.out.below (Nat.le_refl _)) HA.out
                    simp only [Option.some.injEq, Addr.mk.injEq, and_true] at e9
                    obtain ⟨rfl, rfl⟩ := e9
                    go_wp2_with fail
                    go_roundw
                    case rel => exact ⟨k + 1, A2, F2, by go_num, by omega, by omega, HI8.out⟩
                    case measure => simp only [intOf]; omega
        · go_wp2_with fail
          have y1 : ∀ t d s o, ({ heap := wr.heap, tape := t, drawn := d, os := s, output := o } : World).cell? ⟨b, off + k * 4 + 1, none⟩ = some (.int .i64 a.who) := fun _ _ _ _ => d1
          have y2 : ∀ t d s o, ({ heap := wr.heap, tape := t, drawn := d, os := s, output := o } : World).cell? ⟨b, off + k * 4 + 2, none⟩ = some (.int .i64 a.x) := fun _ _ _ _ => d2
          have y3 : ∀ t d s o, ({ heap := wr.heap, tape := t, drawn := d, os := s, output := o } : World).cell? ⟨b, off + k * 4 + 3, none⟩ = some (.string a.key) := fun _ _ _ _ => d3
          go_still_tail 16, (by kernel_rfl)
          change wpList _ _ _ _ _ (wr).drew
          clear y1 y2 y3
          go_wp2_with fail
          refine (GiveHI a.key a.who a.x (HV.out.same (w' := wr.drew) rfl rfl rfl rfl).held HGD.out.2.2.2 HGD.out.2.2.1 (by have := HV.out.most; omega) (by have := HV.out.most; omega) (HV.out.sm.mono (by omega))).mono ?_
          rintro e w2 ⟨gv, gc, F2, rfl, _, h3, h4, h5⟩
          obtain ⟨A2, hA2⟩ : ∃ A2, (giveA A a.key a.who a.x).1 = A2 := ⟨_, rfl⟩
          have hi2 := (HV.out.same (w' := wr.drew) rfl rfl rfl rfl).give h3 h4 h5
          rw [hA2] at hi2
          have HI2 := Lib.hid hi2
          clear hi2 h3 h4 h5 hA2
          go_wp2_with fail
          refine (KeptHI HI2.out.held (by have := HI2.out.most; omega) (HI2.out.sm.mono (by omega))).mono ?_
          rintro e w3 ⟨vk, rfl, hr3, hq3, hh3, ho3⟩
          obtain ⟨K, hK⟩ : ∃ K, keys A2.kept = K := ⟨_, rfl⟩
          rw [hK] at hr3
          obtain ⟨Ak, ck, rfl, hmk⟩ := hr3.len
          rw [List.length_map] at hr3 hq3 hmk ⊢
          have hkn : K.length ≤ n := by rw [← hK]; unfold keys; rw [List.length_map]; exact HI2.out.kept
          have hk63 : K.length ≤ 9223372036854775807 := by omega
          have HI3 := Lib.hid (HI2.out.only hh3 ho3)
          have HR3 := Lib.hid hr3
          have HQ3 := Lib.hid hq3
          have HK := Lib.hid hK
          clear hr3 hq3 hh3 ho3 hK hmk
          go_wp2_with fail
          refine (MakingHI HI3.out.held (by have := HI3.out.most; omega) (HI3.out.sm.mono (by omega))).mono ?_
          rintro e w4 ⟨vm, rfl, hr4, hq4, hh4, ho4⟩
          obtain ⟨M, hM⟩ : ∃ M, keys A2.making = M := ⟨_, rfl⟩
          rw [hM] at hr4
          obtain ⟨Am, cm, rfl, hmm⟩ := hr4.len
          rw [List.length_map] at hr4 hq4 hmm ⊢
          have hmn : M.length ≤ 201 := by rw [← hM]; unfold keys; rw [List.length_map]; have := HI2.out.sm.making; omega
          have hm63 : M.length ≤ 9223372036854775807 := by omega
          have hr3 := HR3.out.other ho4 (fun q hq hm => by have := HI2.out.held.lt q hm; have := HQ3.out q hq; omega)
          have HI4 := Lib.hid (HI3.out.only hh4 ho4)
          have HR4 := Lib.hid hr4
          have HR34 := Lib.hid hr3
          have HM := Lib.hid hM
          clear hr4 hq4 hh4 ho4 hM hr3 hmm HR3 HQ3
          have hgt : ¬ (n : Int) < (K.length : Int) := by omega
          have m1 : ∀ w : World, (Instr.makeMap 49 none).run Try.prog w = .ok (.map (some w.heap.size)) (w.alloc (.map #[] 0)) := fun w => by simp [Instr.makeMap, run_underlying Try.underlying49]
          go_wp2_with fail
          have hc5 := CMap.made w4
          have hi5 := HI4.out.later (w' := w4.alloc (.map #[] 0)) (G := []) alloc_only (fun b hb => by cases hb)
          have hr5 := HR34.out.keep (w' := w4.alloc (.map #[] 0)) (fun q hq => Go.heap_alloc_old w4 _ (HR34.out.lt q hq))
          have hs5 := HR4.out.keep (w' := w4.alloc (.map #[] 0)) (fun q hq => Go.heap_alloc_old w4 _ (HR4.out.lt q hq))
          have hrl := fun q hq => HR34.out.lt q hq
          have hsl := fun q hq => HR4.out.lt q hq
          obtain ⟨bt, hbt⟩ : ∃ bt, w4.heap.size = bt := ⟨_, rfl⟩
          have hge : w.heap.size ≤ bt := by have := HI4.out.below.size; omega
          have hbl : bt < (w4.alloc (.map #[] 0)).heap.size := by rw [World.size_alloc]; omega
          have hoff : ∀ q ∈ F2, q ≠ bt := fun q hq => by have := HI4.out.held.lt q hq; omega
          have hko : KM (keys A2.kept) (keys A2.making) := HI2.out.keysOk
          rw [HK.out, HM.out] at hko
          generalize w4.alloc (.map #[] 0) = w5 at hc5 hi5 hr5 hs5 hbl ⊢
          rw [hbt] at hc5 hrl hsl ⊢
          have HC5 := Lib.hid hc5
          have HI5 := Lib.hid hi5
          have HR5 := Lib.hid hr5
          have HS5 := Lib.hid hs5
          have HRL := Lib.hid hrl
          have HSL := Lib.hid hsl
          have HOFF := Lib.hid hoff
          have HKO := Lib.hid hko
          have HBL := Lib.hid hbl
          have HGE := Lib.hid hge
          clear hc5 hi5 hr5 hs5 hrl hsl hoff hko m1 hbl hbt hge HR34 HR4 HI3 HI4 hgt
          go_loopw [10] (fun i wq => ∃ j : Nat, i = .int .i64 j ∧ j ≤ K.length ∧ CMap wq bt (K.take j) ∧ Only [bt] w5 wq) (fun i _ => K.length - (intOf i).toNat)
          case atStart => exact ⟨0, rfl, Nat.zero_le _, HC5.out, Only.refl _ _⟩
          case round =>
            obtain ⟨j, rfl, hj, hcm, hon⟩ := hrel
            by_cases hjl : j < K.length
            · obtain ⟨s, hs⟩ : ∃ s, K[j]? = some s := ⟨_, List.getElem?_eq_getElem hjl⟩
              have hrw := HR5.out.other hon (fun q hq hm => by simp at hm; have := HRL.out q hq; omega)
              have hnK : K.map Value.string ≠ [] := by intro e; simp at e; rw [e] at hjl; simp at hjl
              obtain ⟨bk, ok, capk, hvk, hx1, hx2, hck, hx3⟩ := hrw.form hnK
              simp only [Value.slice.injEq] at hvk
              obtain ⟨rfl, hx4, rfl⟩ := hvk
              have hcell := hck j (.string s) (by simp [hs])
              have hsz := HKO.out.skept s (List.mem_of_getElem? hs)
              have hni : s ∉ K.take j := nodup_take HKO.out.kept hs
              have hlk := hcm.look0 hsz hni
              obtain ⟨D, hD, hT⟩ := hcm
              have hlen : (K.take j).length = j := by rw [List.length_take]; omega
              have HD := Lib.hid hD
              have HT := Lib.hid hT
              have HON := Lib.hid hon
              have HS := Lib.hid hs
              have HNI := Lib.hid hni
              have HSZ := Lib.hid hsz
              have HLEN := Lib.hid hlen
              clear hD hT hon hs hni hsz hrw hnK hck hlen hx1 hx2 hx3 hx4
              go_wp2_with (at_mapUpdate; go_must (refine wpList_mapUpdate_in _ rfl _ _ _ 49 rfl 9 3 law9 Try.underlying49 (plainElem Try.prog 3) bt (K.take j).length D rfl HD.out (by rw [HLEN.out]; unfold maxLen; omega) (.string s) (.int .i64 1) (litS s) rfl rfl (key9 HSZ.out) (.lit (.int .i64 1)) [] (plainElem_int Try.underlying3 (by decide)) ?_; intro w6 ho6 ht6; have HO6 := Lib.hid ho6; have HT6 := Lib.hid ht6; clear ho6 ht6))
              go_roundw
              case rel => exact ⟨j + 1, by go_num, by omega, by rw [take_succ_at HS.out]; exact CMap.put HT.out HNI.out HO6.out, HON.out.trans (turned_only HT6.out (by simp))⟩
              case measure => simp only [intOf]; omega
            · have hje : j = K.length := by omega
              subst hje
              rw [List.take_length] at hcm
              have HCM := Lib.hid hcm
              have HON := Lib.hid hon
              clear hcm hon
              have hi6 := HI5.out.aside HON.out (fun q hq => by simp at hq; subst hq; exact ⟨fun hm => HOFF.out _ hm rfl, HGE.out⟩)
              have hs6 := HS5.out.other HON.out (fun q hq hm => by simp at hm; have := HSL.out q hq; omega)
              have hbl6 : bt < wr.heap.size := Nat.lt_of_lt_of_le HBL.out HON.out.size
              have HI6 := Lib.hid hi6
              have HS6 := Lib.hid hs6
              have HBL6 := Lib.hid hbl6
              clear hi6 hs6 hbl6 HON HI5 HS5 HBL HR5 HC5 HRL
              go_wp2_with fail
              go_loopw [11] (fun i wq => ∃ j : Nat, i = .int .i64 j ∧ j ≤ M.length ∧ CMap wq bt (K ++ M.take j) ∧ Only [bt] wr wq) (fun i _ => M.length - (intOf i).toNat)
              case atStart => exact ⟨0, rfl, Nat.zero_le _, by simpa using HCM.out, Only.refl _ _⟩
              case round =>
                obtain ⟨j, rfl, hj, hcm, hon⟩ := hrel
                by_cases hjl : j < M.length
                · obtain ⟨s, hs⟩ : ∃ s, M[j]? = some s := ⟨_, List.getElem?_eq_getElem hjl⟩
                  have hrw := HS6.out.other hon (fun q hq hm => by simp at hm; have := HSL.out q hq; omega)
                  have hnK : M.map Value.string ≠ [] := by intro e; simp at e; rw [e] at hjl; simp at hjl
                  obtain ⟨bk, ok, capk, hvk, hx1, hx2, hck, hx3⟩ := hrw.form hnK
                  simp only [Value.slice.injEq] at hvk
                  obtain ⟨rfl, hx4, rfl⟩ := hvk
                  have hcell := hck j (.string s) (by simp [hs])
                  have hsz := HKO.out.smaking s (List.mem_of_getElem? hs)
                  have hni : s ∉ K ++ M.take j := fun hm => by
                    rcases List.mem_append.1 hm with hm | hm
                    · exact HKO.out.apart s hm (List.mem_of_getElem? hs)
                    · exact nodup_take HKO.out.making hs hm
                  have hlk := hcm.look0 hsz hni
                  obtain ⟨D, hD, hT⟩ := hcm
                  have hlen : (K ++ M.take j).length = K.length + j := by rw [List.length_append, List.length_take]; omega
                  have HD := Lib.hid hD
                  have HT := Lib.hid hT
                  have HON := Lib.hid hon
                  have HS := Lib.hid hs
                  have HNI := Lib.hid hni
                  have HSZ := Lib.hid hsz
                  have HLEN := Lib.hid hlen
                  clear hD hT hon hs hni hsz hrw hnK hck hlen hx1 hx2 hx3 hx4
                  go_wp2_with (at_mapUpdate; go_must (refine wpList_mapUpdate_in _ rfl _ _ _ 49 rfl 9 3 law9 Try.underlying49 (plainElem Try.prog 3) bt (K ++ M.take j).length D rfl HD.out (by rw [HLEN.out]; unfold maxLen; omega) (.string s) (.int .i64 1) (litS s) rfl rfl (key9 HSZ.out) (.lit (.int .i64 1)) [] (plainElem_int Try.underlying3 (by decide)) ?_; intro w6 ho6 ht6; have HO6 := Lib.hid ho6; have HT6 := Lib.hid ht6; clear ho6 ht6))
                  go_roundw
                  case rel => exact ⟨j + 1, by go_num, by omega, by rw [take_succ_at HS.out, ← List.append_assoc]; exact CMap.put HT.out HNI.out HO6.out, HON.out.trans (turned_only HT6.out (by simp))⟩
                  case measure => simp only [intOf]; omega
                · have hje : j = M.length := by omega
                  subst hje
                  rw [List.take_length] at hcm
                  have hi7 := HI6.out.aside hon (fun q hq => by simp at hq; subst hq; exact ⟨fun hm => HOFF.out _ hm rfl, HGE.out⟩)
                  have hlen := hcm.len 3
                  have hll : (K ++ M).length = K.length + M.length := List.length_append
                  have HCM := Lib.hid hcm
                  have HI7 := Lib.hid hi7
                  have HON := Lib.hid hon
                  obtain ⟨b9, o9, e9, _, _, _, _, d9⟩ := act_at (HR.out.below hi7.below (Nat.le_refl _)) HA.out
                  simp only [Option.some.injEq, Addr.mk.injEq, and_true] at e9
                  obtain ⟨rfl, rfl⟩ := e9
                  clear hcm hon hi7
                  have hbl7 : bt < wr.heap.size := Nat.lt_of_lt_of_le HBL6.out HON.out.size
                  have HBL7 := Lib.hid hbl7
                  clear hbl7
                  go_wp2_with fail
                  refine (WaitingHI a.key HI7.out.held HGD.out.2.2.2 (by have := HI7.out.most; omega) (HI7.out.sm.mono (by omega))).mono ?_
                  rintro e w8 ⟨vw, rfl, hr8, hq8, hh8, ho8⟩
                  have hi8 := HI7.out.only hh8 ho8
                  have hcm8 := HCM.out.keep (ho8.block bt HBL7.out (fun hm => HOFF.out _ hm rfl))
                  obtain ⟨L, hL⟩ : ∃ L, waitA A2 a.key = L := ⟨_, rfl⟩
                  rw [hL] at hr8
                  obtain ⟨Aw, cw, rfl, hmw⟩ := hr8.len
                  rw [List.length_map] at hmw ⊢
                  have HI8 := Lib.hid hi8
                  clear hr8 hq8 hh8 ho8 hi8
                  have hlw : L.length ≤ 9223372036854775807 := by unfold maxLen at hmw; exact hmw
                  by_cases hL0 : L.length = 0
                  · have hgl : ¬ (0 : Int) < (L.length : Int) := by omega
                    clear hcm8 hL
                    go_wp2_with fail
                    go_roundw
                    case rel => exact ⟨k + 1, A2, F2, by go_num, by omega, by omega, HI8.out⟩
                    case measure => simp only [intOf]; omega
                  · have hgl : (0 : Int) < (L.length : Int) := by omega
                    have hmem : a.key ∈ K ++ M := List.mem_append_right _ (by rw [← HM.out]; exact waitA_mem a.key (fun e => hL0 (by rw [← hL, e]; rfl)))
                    have hlk := hcm8.look1 HGD.out.2.2.2 hmem
                    have d10 := d9
                    clear hcm8 hL hmem d10
                    obtain ⟨b9, o9, e9, _, _, _, _, d11⟩ := act_at (HR.out.below HI8.out.below (Nat.le_refl _)) HA.out
                    simp only [Option.some.injEq, Addr.mk.injEq, and_true] at e9
                    obtain ⟨rfl, rfl⟩ := e9
                    go_wp2_with fail
                    go_roundw
                    case rel => exact ⟨k + 1, A2, F2, by go_num, by omega, by omega, HI8.out⟩
                    case measure => simp only [intOf]; omega
      · have hk3 : k = 200 := by omega
        subst hk3
        go_wp2_with fail
        refine (awake_any wr).mono ?_
        rintro e w2 ⟨rfl, hb⟩
        go_wp2_with fail
        go_ret
        exact ⟨rfl, HV.out.below.trans (hb.mono HV.out.below.size)⟩
    · have hk3 : k = l.length := by omega
      subst hk3
      go_wp2_with fail
      refine (awake_any wr).mono ?_
      rintro e w2 ⟨rfl, hb⟩
      go_wp2_with fail
      go_ret
      exact ⟨rfl, HV.out.below.trans (hb.mono HV.out.below.size)⟩
end Go.Proofs.Ytjghbcligjiaaaa
