/- A part of what the claim leans on. -/
import Derived.Test.YtacdfjlncfidgaaGreatDoorQR
namespace Go.Proofs.YtacdfjlncfidgaaGreatDoor
open Go.RowKit
set_option linter.unusedVariables false
set_option linter.unusedSimpArgs false
set_option maxRecDepth 1000000
set_option maxHeartbeats 6400000
theorem read_n2 (s : ByteArray) (P : Nat) (w : World) (h : Scan s.data.toList P) (hz : s.data.toList[0]? ≠ some 48) (hP : P + 2 < s.size) (hPs : s.size ≤ P + 5) (he : s.data.toList[P]? = some 101) (hg : s.data.toList[P + 1]? = some 43) (hds : ∀ k c, P + 2 ≤ k → s.data.toList[k]? = some c → isDig c = true) :
  Calls Tryz.prog 213 #[.string s] w fun e w' => e = .returned (.tuple #[.int .u64 (rsAt s.data.toList P).mant, .int .i64 (expOf (rsAt s.data.toList P) (valD 0 (s.data.toList.drop (P + 2)) : Nat)), .bool false, .bool (rsAt s.data.toList P).trunc, .bool false, .int .i64 s.size, .bool true]) ∧ w = w' := by
 have hsz : s.data.toList.length = s.size := rfl
 have hs3 : 3 ≤ s.size := h.size
 have hs60 : s.size ≤ 60 := h.most
 have hPle : P ≤ s.size := h.le
 have hP2 := h.pos
 have H := Lib.hid h
 have HOK := Lib.hid h.ok
 have HL46 := Lib.hid lower_46
 have HL101 := Lib.hid lower_101
 obtain ⟨c0, hc0, hd0⟩ := h.first
 have hget : ∀ k (hk : k < s.size), s.data.toList[k]? = some s[k] := fun k hk => by rw [List.getElem?_eq_getElem (by rw [hsz]; exact hk)]; rfl
 have HGET := Lib.hid hget
 have hp0 : 0 < s.size := by omega
 have hne : ¬ s = ByteArray.empty := by rintro rfl; simp at hs3
 have hp1 : 1 < s.size := by omega
 have e0 : (s[0]'hp0) = c0 := Option.some.inj ((hget 0 (by omega)).symm.trans hc0)
 obtain ⟨c1, e1⟩ : ∃ c, (s[1]'hp1) = c := ⟨_, rfl⟩
 have f1 : ¬ (c0.toNat : Int) < 48 := by simp [isDig] at hd0; omega
 have f2 : ¬ (57 : Int) < (c0.toNat : Int) := by simp [isDig] at hd0; omega
 have f43 : ((c0.toNat : Int) == 43) = false := by simp; omega
 have f45 : ((c0.toNat : Int) == 45) = false := by simp; omega
 have f48 : ((c0.toNat : Int) == 48) = false := by
  have hne : c0 ≠ 48 := fun e => hz (by rw [hc0, e])
  have : ¬ c0.toNat = 48 := fun e => hne (UInt8.toNat_inj.1 e)
  simp; omega
 have HE := Lib.hid he
 have HDS := Lib.hid hds
 have HG := Lib.hid hg
 clear h hget hc0 hd0 hz he hds hg
 go_enter Tryz.func213, Tryz.ntmps213
 go_wp2_with (go_at_call 204; refine (HL46.out _).mono ?_; rintro e wx ⟨rfl, rfl⟩)
 go_step3
 go_wp2_with (go_at_call 204; refine (HL46.out _).mono ?_; rintro e wx ⟨rfl, rfl⟩)
 go_step3
 go_wp2_with (go_at_call 204; refine (HL46.out _).mono ?_; rintro e wx ⟨rfl, rfl⟩)
 go_loop [2, 5, 7, 9, 13, 14, 15, 16, 17, 18] (fun mant trunc i und dot dig nd ndm dp _ => ∃ k : Nat, k ≤ P ∧ i = .int .i64 k ∧ und = .bool false ∧ mant = .int .u64 (rsAt s.data.toList k).mant ∧ trunc = .bool (rsAt s.data.toList k).trunc ∧ dot = .bool (rsAt s.data.toList k).dot ∧ dig = .bool (rsAt s.data.toList k).dig ∧ nd = .int .i64 (rsAt s.data.toList k).nd ∧ ndm = .int .i64 (rsAt s.data.toList k).ndm ∧ dp = .int .i64 (rsAt s.data.toList k).dp)
  (fun _ _ i _ _ _ _ _ _ _ => P - (intOf i).toNat)
 case atStart => exact ⟨0, Nat.zero_le _, rfl, rfl, rfl, rfl, rfl, rfl, rfl, rfl, rfl⟩
 case round =>
  obtain ⟨k, hk, rfl, rfl, rfl, rfl, rfl, rfl, rfl, rfl, rfl⟩ := hrel
  have hok := HOK.out k hk
  have g1 := hok.ndm
  have g2 := hok.le
  have g3 := hok.nd
  have g4 := hok.dp0
  have g5 := hok.dp1
  have gm := hok.lt
  have gm18 := hok.lt18
  have hk60 : k ≤ 60 := by omega
  by_cases hlt : k < P
  · obtain ⟨c, hc⟩ : ∃ c, s[k] = c := ⟨_, rfl⟩
    have HC := Lib.hid ((HGET.out k (by omega)).trans (congrArg some hc))
    have hst := rsAt_succ HC.out
    have HBY := Lib.hid (H.out.bytes k c hlt HC.out)
    have hks : (k : Int) < (s.size : Int) := by omega
    clear hok
    generalize rsAt s.data.toList k = σ at *
    obtain ⟨mant, nd, ndm, dp, dot, dig, trunc⟩ := σ
    dsimp only at *
    by_cases h46 : c = 46
    · have hdot : dot = false := by
       rcases HBY.out with h1 | ⟨_, h1⟩
       · rw [h46] at h1; exact absurd h1 (by decide)
       · exact h1
      subst h46 hdot
      rw [step_dot] at hst
      have HST := Lib.hid hst
      clear hst gm18
      go_wp2_with fail
      go_round
      case rel => exact ⟨k + 1, by omega, by go_num, rfl, by rw [HST.out], by rw [HST.out], by rw [HST.out], by rw [HST.out], by rw [HST.out], by rw [HST.out], by rw [HST.out]⟩
      case measure => simp [intOf]; omega
    · have hdg : isDig c = true := by
       rcases HBY.out with h1 | ⟨h1, _⟩
       · exact h1
       · exact absurd h1 h46
      have k1 : (48 : Int) ≤ (c.toNat : Int) := by simp [isDig] at hdg; omega
      have k2 : (c.toNat : Int) ≤ 57 := by simp [isDig] at hdg; omega
      have k3 : ((c.toNat : Int) == 95) = false := by simp; omega
      have k4 : ((c.toNat : Int) == 46) = false := by simp; omega
      have H46 := Lib.hid h46
      have HCN := Lib.hid (fun e : c.toNat = 48 => (UInt8.toNat_inj.1 e : c = 48))
      clear h46 hdg
      have hcv : (((c.toNat - 48 : Nat)) : Int) = (c.toNat : Int) - 48 := by omega
      by_cases h48 : c.toNat = 48
      · have k5 : ((c.toNat : Int) == 48) = true := by simp; omega
        have k5n : ((c.toNat : Int) != 48) = false := by simp; omega
        by_cases hnd : nd = 0
        · rw [step_zero (HCN.out h48) hnd] at hst
          have HST := Lib.hid hst
          have k6 : ((nd : Int) == 0) = true := by simp; omega
          clear hst h48 gm18 hcv
          go_wp2_with fail
          go_round
          case rel => exact ⟨k + 1, by omega, by go_num, rfl, by rw [HST.out], by rw [HST.out], by rw [HST.out], by rw [HST.out], by rw [HST.out], by rw [HST.out], by rw [HST.out]⟩
          case measure => simp [intOf]; omega
        · have k6 : ((nd : Int) == 0) = false := by simp; omega
          by_cases hm : ndm < 19
          · have hm18 := gm18 hm
            rw [step_dig H46.out (fun e => hnd e.2) hm] at hst
            have HST := Lib.hid hst
            have k7 : (ndm : Int) < 19 := by omega
            have HCV := Lib.hid hcv
            clear hst hnd hm gm18 hcv h48
            go_wp2_with fail
            go_round
            case rel => exact ⟨k + 1, by omega, by go_num, rfl, by rw [HST.out]; push_cast [HCV.out]; first | rfl | (congr 1; omega), by rw [HST.out], by rw [HST.out], by rw [HST.out], by rw [HST.out]; go_num, by rw [HST.out]; go_num, by rw [HST.out]⟩
            case measure => simp [intOf]; omega
          · rw [step_more H46.out (fun e => hnd e.2) hm] at hst
            have HST := Lib.hid hst
            have k7 : ¬ (ndm : Int) < 19 := by omega
            have HTR := Lib.hid (show (trunc || decide (c ≠ 48)) = trunc by rw [HCN.out h48]; simp)
            clear hst hnd hm gm18 hcv h48
            go_wp2_with fail
            go_round
            case rel => exact ⟨k + 1, by omega, by go_num, rfl, by rw [HST.out], by rw [HST.out, HTR.out], by rw [HST.out], by rw [HST.out], by rw [HST.out]; go_num, by rw [HST.out], by rw [HST.out]⟩
            case measure => simp [intOf]; omega
      · have k5 : ((c.toNat : Int) == 48) = false := by simp; omega
        have k5n : ((c.toNat : Int) != 48) = true := by simp; omega
        have hcn : c ≠ 48 := fun e => h48 (by rw [e]; rfl)
        by_cases hm : ndm < 19
        · have hm18 := gm18 hm
          rw [step_dig H46.out (fun e => hcn e.1) hm] at hst
          have HST := Lib.hid hst
          have k7 : (ndm : Int) < 19 := by omega
          have HCV := Lib.hid hcv
          clear hst hm gm18 hcv h48 hcn
          go_wp2_with fail
          go_round
          case rel => exact ⟨k + 1, by omega, by go_num, rfl, by rw [HST.out]; push_cast [HCV.out]; first | rfl | (congr 1; omega), by rw [HST.out], by rw [HST.out], by rw [HST.out], by rw [HST.out]; go_num, by rw [HST.out]; go_num, by rw [HST.out]⟩
          case measure => simp [intOf]; omega
        · rw [step_more H46.out (fun e => hcn e.1) hm] at hst
          have HST := Lib.hid hst
          have k7 : ¬ (ndm : Int) < 19 := by omega
          have HTR := Lib.hid (show (trunc || decide (c ≠ 48)) = true by simp [hcn])
          clear hst hm gm18 hcv h48 hcn
          go_wp2_with fail
          go_round
          case rel => exact ⟨k + 1, by omega, by go_num, rfl, by rw [HST.out], by rw [HST.out, HTR.out], by rw [HST.out], by rw [HST.out], by rw [HST.out]; go_num, by rw [HST.out], by rw [HST.out]⟩
          case measure => simp [intOf]; omega
  · obtain rfl : k = P := by omega
    have t1 := H.out.dot
    have t2 := H.out.dig
    clear hok hk hlt gm18
    obtain ⟨σ, hσ⟩ : ∃ σ, rsAt s.data.toList k = σ := ⟨_, rfl⟩
    rw [hσ] at t1 t2 g1 g2 g3 g4 g5 gm ⊢
    obtain ⟨mant, nd, ndm, dp, dot, dig, trunc⟩ := σ
    dsimp only at t1 t2 g1 g2 g3 g4 g5 gm
    subst t1 t2
    have HSG := Lib.hid hσ
    clear hσ
    have HEX := Lib.hid (show ∀ x : Int, expOf ⟨mant, nd, ndm, dp, true, true, trunc⟩ x = if mant = 0 then 0 else dp + x - ndm from fun x => rfl)
    have e2 : s[k] = 101 := Option.some.inj ((HGET.out k (by omega)).symm.trans HE.out)
    have hks : (k : Int) < (s.size : Int) := by omega
    have e3 : s[k + 1] = 43 := Option.some.inj ((HGET.out (k + 1) (by omega)).symm.trans HG.out)
    have hks2 : (k : Int) + 1 < (s.size : Int) := by omega
    obtain ⟨Q, hQ⟩ : ∃ Q, k + 2 = Q := ⟨_, rfl⟩
    have hQs : Q < s.size := by omega
    obtain ⟨cq, hcq⟩ : ∃ c, (s[Q]'hQs) = c := ⟨_, rfl⟩
    have HDQ := Lib.hid (HDS.out Q cq (by omega) ((HGET.out Q (by omega)).trans (congrArg some hcq)))
    have r1 : ¬ (cq.toNat : Int) < 48 := by have := HDQ.out; simp [isDig] at this; omega
    have r2 : ¬ (57 : Int) < (cq.toNat : Int) := by have := HDQ.out; simp [isDig] at this; omega
    have r3 : ((cq.toNat : Int) == 43) = false := by simp; omega
    have r4 : ((cq.toNat : Int) == 45) = false := by simp; omega
    have hQ1 : (k : Int) + 1 + 1 = (Q : Int) := by omega
    have hQ2 : (Q : Int) < (s.size : Int) := by omega
    have HQQ := Lib.hid hQ
    clear hQ
    go_wp2_with (go_at_call 204; refine (HL101.out _).mono ?_; rintro e wx ⟨rfl, rfl⟩)
    go_loop [7, 9, 20] (fun i und ev => ∃ (j v : Nat), Q ≤ j ∧ j ≤ s.size ∧ i = .int .i64 j ∧ und = .bool false ∧ ev = .int .i64 v ∧ v < 10 ^ (j - Q) ∧ v = valD 0 ((s.data.toList.drop Q).take (j - Q))) (fun i _ _ => s.size - (intOf i).toNat)
    case atStart => exact ⟨Q, 0, Nat.le_refl _, by omega, rfl, rfl, rfl, by simp, by simp [valD]⟩
    case round =>
     obtain ⟨j, v, hj1, hj2, rfl, rfl, rfl, hv1, hv2⟩ := hrel
     have HV2 := Lib.hid hv2
     have HV1 := Lib.hid hv1
     clear hv2
     by_cases hjs : j < s.size
     · obtain ⟨c, hc⟩ : ∃ c, s[j] = c := ⟨_, rfl⟩
       have HC := Lib.hid ((HGET.out j hjs).trans (congrArg some hc))
       have hdg := HDS.out j c (by have := HQQ.out; omega) HC.out
       have k1 : (48 : Int) ≤ (c.toNat : Int) := by simp [isDig] at hdg; omega
       have k2 : (c.toNat : Int) ≤ 57 := by simp [isDig] at hdg; omega
       have k3 : ((c.toNat : Int) == 95) = false := by simp; omega
       have hv99 : v < 100 := by
        have : 10 ^ (j - Q) ≤ 10 ^ 2 := Nat.pow_le_pow_right (by decide) (by have := HQQ.out; omega)
        omega
       have HNX := Lib.hid (valD_next (L := s.data.toList) (Q := Q) (j := j) hj1 HC.out)
       have hcv : (((v * 10 + (c.toNat - 48) : Nat)) : Int) = (v : Int) * 10 + (c.toNat : Int) - 48 := by omega
       have HCV := Lib.hid hcv
       have hjs2 : (j : Int) < (s.size : Int) := by omega
       have hv3 : (v : Int) < 100 := by omega
       clear hdg hv1 hcv
       go_wp2_with fail
       go_round
       case rel => exact ⟨j + 1, v * 10 + (c.toNat - 48), by omega, by omega, by go_num, rfl, by rw [HCV.out], by have h1 := HV1.out; rw [show j + 1 - Q = (j - Q) + 1 by omega, Nat.pow_succ]; omega, by rw [HNX.out, ← HV2.out]⟩
       case measure => simp [intOf]; omega
     · obtain rfl : j = s.size := by omega
       have HVV := Lib.hid (show (valD 0 (s.data.toList.drop Q) : Nat) = v by rw [HV2.out, List.take_of_length_le (by simp <;> omega)])
       have HQK := Lib.hid HQQ.out.symm
       have hv999 : v < 1000 := by
        have : 10 ^ (s.size - Q) ≤ 10 ^ 3 := Nat.pow_le_pow_right (by decide) (by have := HQQ.out; omega)
        omega
       clear hv1
       by_cases hm0 : mant = 0
       · have q1 : ((mant : Int) != 0) = false := by simp; omega
         go_wp2_with fail
         first | rw [Exit.noGoto_ret] | skip
         exact bodyPost_ret (v := .tuple #[.int .u64 mant, .int .i64 (0), .bool false, .bool trunc, .bool false, .int .i64 s.size, .bool true]) (by simp [results, Tryz.results135, go_sem] <;> omega) rfl ⟨by rw [HSG.out, HEX.out, if_pos hm0], rfl⟩
       · have q1 : ((mant : Int) != 0) = true := by simp; omega
         go_wp2_with fail
         first | rw [Exit.noGoto_ret] | skip
         exact bodyPost_ret (v := .tuple #[.int .u64 mant, .int .i64 (dp + v - ndm), .bool false, .bool trunc, .bool false, .int .i64 s.size, .bool true]) (by simp [results, Tryz.results135, go_sem] <;> omega) rfl ⟨by rw [HSG.out, HQQ.out, HVV.out, HEX.out, if_neg hm0], rfl⟩
theorem read_n3 (s : ByteArray) (P : Nat) (w : World) (h : Scan s.data.toList P) (hz : s.data.toList[0]? ≠ some 48) (hP : P + 2 < s.size) (hPs : s.size ≤ P + 5) (he : s.data.toList[P]? = some 101) (hg : s.data.toList[P + 1]? = some 45) (hds : ∀ k c, P + 2 ≤ k → s.data.toList[k]? = some c → isDig c = true) :
  Calls Tryz.prog 213 #[.string s] w fun e w' => e = .returned (.tuple #[.int .u64 (rsAt s.data.toList P).mant, .int .i64 (expOf (rsAt s.data.toList P) (-(valD 0 (s.data.toList.drop (P + 2)) : Nat))), .bool false, .bool (rsAt s.data.toList P).trunc, .bool false, .int .i64 s.size, .bool true]) ∧ w = w' := by
 have hsz : s.data.toList.length = s.size := rfl
 have hs3 : 3 ≤ s.size := h.size
 have hs60 : s.size ≤ 60 := h.most
 have hPle : P ≤ s.size := h.le
 have hP2 := h.pos
 have H := Lib.hid h
 have HOK := Lib.hid h.ok
 have HL46 := Lib.hid lower_46
 have HL101 := Lib.hid lower_101
 obtain ⟨c0, hc0, hd0⟩ := h.first
 have hget : ∀ k (hk : k < s.size), s.data.toList[k]? = some s[k] := fun k hk => by rw [List.getElem?_eq_getElem (by rw [hsz]; exact hk)]; rfl
 have HGET := Lib.hid hget
 have hp0 : 0 < s.size := by omega
 have hne : ¬ s = ByteArray.empty := by rintro rfl; simp at hs3
 have hp1 : 1 < s.size := by omega
 have e0 : (s[0]'hp0) = c0 := Option.some.inj ((hget 0 (by omega)).symm.trans hc0)
 obtain ⟨c1, e1⟩ : ∃ c, (s[1]'hp1) = c := ⟨_, rfl⟩
 have f1 : ¬ (c0.toNat : Int) < 48 := by simp [isDig] at hd0; omega
 have f2 : ¬ (57 : Int) < (c0.toNat : Int) := by simp [isDig] at hd0; omega
 have f43 : ((c0.toNat : Int) == 43) = false := by simp; omega
 have f45 : ((c0.toNat : Int) == 45) = false := by simp; omega
 have f48 : ((c0.toNat : Int) == 48) = false := by
  have hne : c0 ≠ 48 := fun e => hz (by rw [hc0, e])
  have : ¬ c0.toNat = 48 := fun e => hne (UInt8.toNat_inj.1 e)
  simp; omega
 have HE := Lib.hid he
 have HDS := Lib.hid hds
 have HG := Lib.hid hg
 clear h hget hc0 hd0 hz he hds hg
 go_enter Tryz.func213, Tryz.ntmps213
 go_wp2_with (go_at_call 204; refine (HL46.out _).mono ?_; rintro e wx ⟨rfl, rfl⟩)
 go_step3
 go_wp2_with (go_at_call 204; refine (HL46.out _).mono ?_; rintro e wx ⟨rfl, rfl⟩)
 go_step3
 go_wp2_with (go_at_call 204; refine (HL46.out _).mono ?_; rintro e wx ⟨rfl, rfl⟩)
 go_loop [2, 5, 7, 9, 13, 14, 15, 16, 17, 18] (fun mant trunc i und dot dig nd ndm dp _ => ∃ k : Nat, k ≤ P ∧ i = .int .i64 k ∧ und = .bool false ∧ mant = .int .u64 (rsAt s.data.toList k).mant ∧ trunc = .bool (rsAt s.data.toList k).trunc ∧ dot = .bool (rsAt s.data.toList k).dot ∧ dig = .bool (rsAt s.data.toList k).dig ∧ nd = .int .i64 (rsAt s.data.toList k).nd ∧ ndm = .int .i64 (rsAt s.data.toList k).ndm ∧ dp = .int .i64 (rsAt s.data.toList k).dp)
  (fun _ _ i _ _ _ _ _ _ _ => P - (intOf i).toNat)
 case atStart => exact ⟨0, Nat.zero_le _, rfl, rfl, rfl, rfl, rfl, rfl, rfl, rfl, rfl⟩
 case round =>
  obtain ⟨k, hk, rfl, rfl, rfl, rfl, rfl, rfl, rfl, rfl, rfl⟩ := hrel
  have hok := HOK.out k hk
  have g1 := hok.ndm
  have g2 := hok.le
  have g3 := hok.nd
  have g4 := hok.dp0
  have g5 := hok.dp1
  have gm := hok.lt
  have gm18 := hok.lt18
  have hk60 : k ≤ 60 := by omega
  by_cases hlt : k < P
  · obtain ⟨c, hc⟩ : ∃ c, s[k] = c := ⟨_, rfl⟩
    have HC := Lib.hid ((HGET.out k (by omega)).trans (congrArg some hc))
    have hst := rsAt_succ HC.out
    have HBY := Lib.hid (H.out.bytes k c hlt HC.out)
    have hks : (k : Int) < (s.size : Int) := by omega
    clear hok
    generalize rsAt s.data.toList k = σ at *
    obtain ⟨mant, nd, ndm, dp, dot, dig, trunc⟩ := σ
    dsimp only at *
    by_cases h46 : c = 46
    · have hdot : dot = false := by
       rcases HBY.out with h1 | ⟨_, h1⟩
       · rw [h46] at h1; exact absurd h1 (by decide)
       · exact h1
      subst h46 hdot
      rw [step_dot] at hst
      have HST := Lib.hid hst
      clear hst gm18
      go_wp2_with fail
      go_round
      case rel => exact ⟨k + 1, by omega, by go_num, rfl, by rw [HST.out], by rw [HST.out], by rw [HST.out], by rw [HST.out], by rw [HST.out], by rw [HST.out], by rw [HST.out]⟩
      case measure => simp [intOf]; omega
    · have hdg : isDig c = true := by
       rcases HBY.out with h1 | ⟨h1, _⟩
       · exact h1
       · exact absurd h1 h46
      have k1 : (48 : Int) ≤ (c.toNat : Int) := by simp [isDig] at hdg; omega
      have k2 : (c.toNat : Int) ≤ 57 := by simp [isDig] at hdg; omega
      have k3 : ((c.toNat : Int) == 95) = false := by simp; omega
      have k4 : ((c.toNat : Int) == 46) = false := by simp; omega
      have H46 := Lib.hid h46
      have HCN := Lib.hid (fun e : c.toNat = 48 => (UInt8.toNat_inj.1 e : c = 48))
      clear h46 hdg
      have hcv : (((c.toNat - 48 : Nat)) : Int) = (c.toNat : Int) - 48 := by omega
      by_cases h48 : c.toNat = 48
      · have k5 : ((c.toNat : Int) == 48) = true := by simp; omega
        have k5n : ((c.toNat : Int) != 48) = false := by simp; omega
        by_cases hnd : nd = 0
        · rw [step_zero (HCN.out h48) hnd] at hst
          have HST := Lib.hid hst
          have k6 : ((nd : Int) == 0) = true := by simp; omega
          clear hst h48 gm18 hcv
          go_wp2_with fail
          go_round
          case rel => exact ⟨k + 1, by omega, by go_num, rfl, by rw [HST.out], by rw [HST.out], by rw [HST.out], by rw [HST.out], by rw [HST.out], by rw [HST.out], by rw [HST.out]⟩
          case measure => simp [intOf]; omega
        · have k6 : ((nd : Int) == 0) = false := by simp; omega
          by_cases hm : ndm < 19
          · have hm18 := gm18 hm
            rw [step_dig H46.out (fun e => hnd e.2) hm] at hst
            have HST := Lib.hid hst
            have k7 : (ndm : Int) < 19 := by omega
            have HCV := Lib.hid hcv
            clear hst hnd hm gm18 hcv h48
            go_wp2_with fail
            go_round
            case rel => exact ⟨k + 1, by omega, by go_num, rfl, by rw [HST.out]; push_cast [HCV.out]; first | rfl | (congr 1; omega), by rw [HST.out], by rw [HST.out], by rw [HST.out], by rw [HST.out]; go_num, by rw [HST.out]; go_num, by rw [HST.out]⟩
            case measure => simp [intOf]; omega
          · rw [step_more H46.out (fun e => hnd e.2) hm] at hst
            have HST := Lib.hid hst
            have k7 : ¬ (ndm : Int) < 19 := by omega
            have HTR := Lib.hid (show (trunc || decide (c ≠ 48)) = trunc by rw [HCN.out h48]; simp)
            clear hst hnd hm gm18 hcv h48
            go_wp2_with fail
            go_round
            case rel => exact ⟨k + 1, by omega, by go_num, rfl, by rw [HST.out], by rw [HST.out, HTR.out], by rw [HST.out], by rw [HST.out], by rw [HST.out]; go_num, by rw [HST.out], by rw [HST.out]⟩
            case measure => simp [intOf]; omega
      · have k5 : ((c.toNat : Int) == 48) = false := by simp; omega
        have k5n : ((c.toNat : Int) != 48) = true := by simp; omega
        have hcn : c ≠ 48 := fun e => h48 (by rw [e]; rfl)
        by_cases hm : ndm < 19
        · have hm18 := gm18 hm
          rw [step_dig H46.out (fun e => hcn e.1) hm] at hst
          have HST := Lib.hid hst
          have k7 : (ndm : Int) < 19 := by omega
          have HCV := Lib.hid hcv
          clear hst hm gm18 hcv h48 hcn
          go_wp2_with fail
          go_round
          case rel => exact ⟨k + 1, by omega, by go_num, rfl, by rw [HST.out]; push_cast [HCV.out]; first | rfl | (congr 1; omega), by rw [HST.out], by rw [HST.out], by rw [HST.out], by rw [HST.out]; go_num, by rw [HST.out]; go_num, by rw [HST.out]⟩
          case measure => simp [intOf]; omega
        · rw [step_more H46.out (fun e => hcn e.1) hm] at hst
          have HST := Lib.hid hst
          have k7 : ¬ (ndm : Int) < 19 := by omega
          have HTR := Lib.hid (show (trunc || decide (c ≠ 48)) = true by simp [hcn])
          clear hst hm gm18 hcv h48 hcn
          go_wp2_with fail
          go_round
          case rel => exact ⟨k + 1, by omega, by go_num, rfl, by rw [HST.out], by rw [HST.out, HTR.out], by rw [HST.out], by rw [HST.out], by rw [HST.out]; go_num, by rw [HST.out], by rw [HST.out]⟩
          case measure => simp [intOf]; omega
  · obtain rfl : k = P := by omega
    have t1 := H.out.dot
    have t2 := H.out.dig
    clear hok hk hlt gm18
    obtain ⟨σ, hσ⟩ : ∃ σ, rsAt s.data.toList k = σ := ⟨_, rfl⟩
    rw [hσ] at t1 t2 g1 g2 g3 g4 g5 gm ⊢
    obtain ⟨mant, nd, ndm, dp, dot, dig, trunc⟩ := σ
    dsimp only at t1 t2 g1 g2 g3 g4 g5 gm
    subst t1 t2
    have HSG := Lib.hid hσ
    clear hσ
    have HEX := Lib.hid (show ∀ x : Int, expOf ⟨mant, nd, ndm, dp, true, true, trunc⟩ x = if mant = 0 then 0 else dp + x - ndm from fun x => rfl)
    have e2 : s[k] = 101 := Option.some.inj ((HGET.out k (by omega)).symm.trans HE.out)
    have hks : (k : Int) < (s.size : Int) := by omega
    have e3 : s[k + 1] = 45 := Option.some.inj ((HGET.out (k + 1) (by omega)).symm.trans HG.out)
    have hks2 : (k : Int) + 1 < (s.size : Int) := by omega
    obtain ⟨Q, hQ⟩ : ∃ Q, k + 2 = Q := ⟨_, rfl⟩
    have hQs : Q < s.size := by omega
    obtain ⟨cq, hcq⟩ : ∃ c, (s[Q]'hQs) = c := ⟨_, rfl⟩
    have HDQ := Lib.hid (HDS.out Q cq (by omega) ((HGET.out Q (by omega)).trans (congrArg some hcq)))
    have r1 : ¬ (cq.toNat : Int) < 48 := by have := HDQ.out; simp [isDig] at this; omega
    have r2 : ¬ (57 : Int) < (cq.toNat : Int) := by have := HDQ.out; simp [isDig] at this; omega
    have r3 : ((cq.toNat : Int) == 43) = false := by simp; omega
    have r4 : ((cq.toNat : Int) == 45) = false := by simp; omega
    have hQ1 : (k : Int) + 1 + 1 = (Q : Int) := by omega
    have hQ2 : (Q : Int) < (s.size : Int) := by omega
    have HQQ := Lib.hid hQ
    clear hQ
    go_wp2_with (go_at_call 204; refine (HL101.out _).mono ?_; rintro e wx ⟨rfl, rfl⟩)
    go_loop [7, 9, 20] (fun i und ev => ∃ (j v : Nat), Q ≤ j ∧ j ≤ s.size ∧ i = .int .i64 j ∧ und = .bool false ∧ ev = .int .i64 v ∧ v < 10 ^ (j - Q) ∧ v = valD 0 ((s.data.toList.drop Q).take (j - Q))) (fun i _ _ => s.size - (intOf i).toNat)
    case atStart => exact ⟨Q, 0, Nat.le_refl _, by omega, rfl, rfl, rfl, by simp, by simp [valD]⟩
    case round =>
     obtain ⟨j, v, hj1, hj2, rfl, rfl, rfl, hv1, hv2⟩ := hrel
     have HV2 := Lib.hid hv2
     have HV1 := Lib.hid hv1
     clear hv2
     by_cases hjs : j < s.size
     · obtain ⟨c, hc⟩ : ∃ c, s[j] = c := ⟨_, rfl⟩
       have HC := Lib.hid ((HGET.out j hjs).trans (congrArg some hc))
       have hdg := HDS.out j c (by have := HQQ.out; omega) HC.out
       have k1 : (48 : Int) ≤ (c.toNat : Int) := by simp [isDig] at hdg; omega
       have k2 : (c.toNat : Int) ≤ 57 := by simp [isDig] at hdg; omega
       have k3 : ((c.toNat : Int) == 95) = false := by simp; omega
       have hv99 : v < 100 := by
        have : 10 ^ (j - Q) ≤ 10 ^ 2 := Nat.pow_le_pow_right (by decide) (by have := HQQ.out; omega)
        omega
       have HNX := Lib.hid (valD_next (L := s.data.toList) (Q := Q) (j := j) hj1 HC.out)
       have hcv : (((v * 10 + (c.toNat - 48) : Nat)) : Int) = (v : Int) * 10 + (c.toNat : Int) - 48 := by omega
       have HCV := Lib.hid hcv
       have hjs2 : (j : Int) < (s.size : Int) := by omega
       have hv3 : (v : Int) < 100 := by omega
       clear hdg hv1 hcv
       go_wp2_with fail
       go_round
       case rel => exact ⟨j + 1, v * 10 + (c.toNat - 48), by omega, by omega, by go_num, rfl, by rw [HCV.out], by have h1 := HV1.out; rw [show j + 1 - Q = (j - Q) + 1 by omega, Nat.pow_succ]; omega, by rw [HNX.out, ← HV2.out]⟩
       case measure => simp [intOf]; omega
     · obtain rfl : j = s.size := by omega
       have HVV := Lib.hid (show (valD 0 (s.data.toList.drop Q) : Nat) = v by rw [HV2.out, List.take_of_length_le (by simp <;> omega)])
       have HQK := Lib.hid HQQ.out.symm
       have hv999 : v < 1000 := by
        have : 10 ^ (s.size - Q) ≤ 10 ^ 3 := Nat.pow_le_pow_right (by decide) (by have := HQQ.out; omega)
        omega
       clear hv1
       by_cases hm0 : mant = 0
       · have q1 : ((mant : Int) != 0) = false := by simp; omega
         go_wp2_with fail
         first | rw [Exit.noGoto_ret] | skip
         exact bodyPost_ret (v := .tuple #[.int .u64 mant, .int .i64 (0), .bool false, .bool trunc, .bool false, .int .i64 s.size, .bool true]) (by simp [results, Tryz.results135, go_sem] <;> omega) rfl ⟨by rw [HSG.out, HEX.out, if_pos hm0], rfl⟩
       · have q1 : ((mant : Int) != 0) = true := by simp; omega
         go_wp2_with fail
         first | rw [Exit.noGoto_ret] | skip
         exact bodyPost_ret (v := .tuple #[.int .u64 mant, .int .i64 (dp + -v - ndm), .bool false, .bool trunc, .bool false, .int .i64 s.size, .bool true]) (by simp [results, Tryz.results135, go_sem] <;> omega) rfl ⟨by rw [HSG.out, HQQ.out, HVV.out, HEX.out, if_neg hm0], rfl⟩
end Go.Proofs.YtacdfjlncfidgaaGreatDoor
