/- A part of what the claim leans on. -/
import Derived.Test.YtacdfjlncfidgaaGreatDoorQM
import Derived.Test.YtacdfjlncfidgaaGreatDoorQR
namespace Go.Proofs.YtacdfjlncfidgaaGreatDoor
open Go.RowKit
set_option linter.unusedVariables false
set_option linter.unusedSimpArgs false
set_option maxRecDepth 1000000
set_option maxHeartbeats 6400000
theorem set_1 (s : ByteArray) (P b : Nat) (c : List Nat) (ng tr : Bool) (w : World) (h : Scan s.data.toList P) (hP : P + 1 < s.size) (hPs : s.size ≤ P + 4) (he : s.data.toList[P]? = some 101) (hds : ∀ k c, P + 1 ≤ k → s.data.toList[k]? = some c → isDig c = true) (hm : Dcm w b c 0 0 ng tr) :
  Calls Tryz.prog 219 #[.pointer (some ⟨b, 0, none⟩), .string s] w fun e w' => e = .returned (.bool true) ∧ SetPost w b (ssAt s.data.toList P) (valD 0 (s.data.toList.drop (P + 1)) : Nat) w' := by
 have hsz : s.data.toList.length = s.size := rfl
 have hs3 : 3 ≤ s.size := h.size
 have hs60 : s.size ≤ 60 := h.most
 have hPle : P ≤ s.size := h.le
 have hP2 := h.pos
 have H := Lib.hid h
 have HL101 := Lib.hid lower_101
 obtain ⟨c0, hc0, hd0⟩ := h.first
 have hget : ∀ k (hk : k < s.size), s.data.toList[k]? = some s[k] := fun k hk => by rw [List.getElem?_eq_getElem (by rw [hsz]; exact hk)]; rfl
 have HGET := Lib.hid hget
 have hp0 : 0 < s.size := by omega
 have hne : ¬ s = ByteArray.empty := by rintro rfl; simp at hs3
 have e0 : (s[0]'hp0) = c0 := Option.some.inj ((hget 0 (by omega)).symm.trans hc0)
 have f43 : ((c0.toNat : Int) == 43) = false := by simp [isDig] at hd0; rw [beq_eq_false_iff_ne]; omega
 have f45 : ((c0.toNat : Int) == 45) = false := by simp [isDig] at hd0; rw [beq_eq_false_iff_ne]; omega
 have HDC := Lib.hid ((hm.setNg false).setTr false)
 have m0 := hm.ng_
 have m1 := hm.tr_
 have q0 := hm.thaw 802
 have q1 := hm.thaw 803
 have HE := Lib.hid he
 have HDS := Lib.hid hds
 clear h hget hc0 hd0 hm he hds
 go_enter Tryz.func219, Tryz.ntmps219
 go_wp2_with fail
 go_outline
 first | go_step3 | skip
 go_wp2_with fail
 first | go_step3 | skip
 go_wp2_with fail
 go_outline
 have HB0 := Lib.hid (((Below.refl b w).setCell (p := ⟨b, 802, none⟩) (Nat.le_refl _) (Value.bool false)).setCell (p := ⟨b, 803, none⟩) (Nat.le_refl _) (Value.bool false))
 clear m0 m1 q0 q1
 go_loopw [5, 6, 7] (fun iv dotv digv wr => ∃ (k : Nat) (cc : List Nat), k ≤ P ∧ iv = .int .i64 k ∧ dotv = .bool (ssAt s.data.toList k).dot ∧ digv = .bool (ssAt s.data.toList k).dig ∧ Dcm wr b cc ((ssAt s.data.toList k).D.length : Int) (ssAt s.data.toList k).dp false false ∧ Has cc 0 (ssAt s.data.toList k).D ∧ Below b w wr) (fun iv _ _ _ => P - (intOf iv).toNat)
 case atStart => exact ⟨0, c, Nat.zero_le _, rfl, rfl, rfl, HDC.out, Has.nil, HB0.out⟩
 case round =>
  obtain ⟨k, cc, hk, rfl, rfl, rfl, hM, hH, hB⟩ := hrel
  have HM := Lib.hid hM
  have HH := Lib.hid hH
  have HB := Lib.hid hB
  have HOK := Lib.hid (SS.ok s.data.toList k)
  have hok1 := (SS.ok s.data.toList k).len
  have hok2 := (SS.ok s.data.toList k).dp0
  have hok3 := (SS.ok s.data.toList k).dp1
  have m0 := hM.nd_
  have m1 := hM.dp_
  have q0 := hM.thaw 800
  have q1 := hM.thaw 801
  have hcl := hM.len
  clear hM hH hB
  by_cases hlt : k < P
  · obtain ⟨c, hc⟩ : ∃ c, s[k] = c := ⟨_, rfl⟩
    have HC := Lib.hid ((HGET.out k (by omega)).trans (congrArg some hc))
    have hst := ssAt_succ HC.out
    have HBY := Lib.hid (H.out.bytes k c hlt HC.out)
    have HDOT := Lib.hid (H.out.rs_ss hk)
    have hks : (k : Int) < (s.size : Int) := by omega
    generalize ssAt s.data.toList k = σ at *
    obtain ⟨D, dp, dot, dig⟩ := σ
    dsimp only at *
    obtain ⟨N, hN⟩ : ∃ N, D.length = N := ⟨_, rfl⟩
    rw [hN] at m0 hok1
    have HN := Lib.hid hN
    clear hN
    by_cases h46 : c = 46
    · have hdot : dot = false := by
       rcases HBY.out with h1 | ⟨_, h1⟩
       · rw [h46] at h1; exact absurd h1 (by decide)
       · exact HDOT.out.dot.symm.trans h1
      subst h46 hdot
      rw [ss_dot] at hst
      have HST := Lib.hid hst
      clear hst hcl
      go_wp2_with fail
      refine ⟨⟨k + 1, cc, by omega, by go_num, by rw [HST.out], by rw [HST.out], by rw [HST.out]; simpa [HN.out] using HM.out.setDp N, by rw [HST.out]; exact HH.out, HB.out.setCell (p := ⟨b, 801, none⟩) (Nat.le_refl _) _⟩, by simp [intOf]; omega⟩
    · have hdg : isDig c = true := by
       rcases HBY.out with h1 | ⟨h1, _⟩
       · exact h1
       · exact absurd h1 h46
      have k1 : (48 : Int) ≤ (c.toNat : Int) := by simp [isDig] at hdg; omega
      have k2 : (c.toNat : Int) ≤ 57 := by simp [isDig] at hdg; omega
      have k3 : ((c.toNat : Int) == 95) = false := by rw [beq_eq_false_iff_ne]; omega
      have hc46 : c.toNat ≠ 46 := fun e => h46 (UInt8.toNat_inj.1 e)
      have k4 : ((c.toNat : Int) == 46) = false := by rw [beq_eq_false_iff_ne]; omega
      have H46 := Lib.hid h46
      clear h46 hdg
      by_cases hz : c.toNat = 48 ∧ N = 0
      · obtain ⟨hz1, hz2⟩ := hz
        subst hz2
        rw [ss_zero (UInt8.toNat_inj.1 hz1) (List.eq_nil_of_length_eq_zero HN.out)] at hst
        have HST := Lib.hid hst
        have k5 : ((c.toNat : Int) == 48) = true := by rw [beq_iff_eq]; omega
        clear hst hcl
        go_wp2_with fail
        refine ⟨⟨k + 1, cc, by omega, by go_num, by rw [HST.out], by rw [HST.out], by rw [HST.out]; exact HM.out.setDp _, by rw [HST.out]; exact HH.out, HB.out.setCell (p := ⟨b, 801, none⟩) (Nat.le_refl _) _⟩, by simp [intOf]; omega⟩
      · have hz' : ¬ (c = 48 ∧ D = []) := fun e => hz ⟨by rw [e.1]; rfl, by rw [← HN.out, e.2]; rfl⟩
        rw [ss_dig H46.out hz'] at hst
        have HST := Lib.hid hst
        have hN60 : N < 800 := by omega
        have g5 : (N : Int) < 800 := by omega
        have g6 : (0 : Int) ≤ (N : Int) := by omega
        have q2 := HM.out.thaw N
        obtain ⟨z, hzc⟩ : ∃ z, wr.cell? ⟨b, N, none⟩ = some (.int .u8 (z : Nat)) := by
         obtain ⟨z, hzc⟩ : ∃ z, cc[N]? = some z := ⟨_, List.getElem?_eq_getElem (show N < cc.length by omega)⟩
         exact ⟨z, HM.out.at_ hzc⟩
        have HMS := Lib.hid (show Dcm ((wr.setCell ⟨b, N, none⟩ (.int .u8 (c.toNat : Int))).drew) b (cc.set N (48 + (c.toNat - 48))) (D.length : Int) dp false false by
         have h1 := (HM.out.set N (48 + (c.toNat - 48)) hN60).drew
         rwa [show ((48 + (c.toNat - 48) : Nat) : Int) = (c.toNat : Int) by omega] at h1)
        have HHS := Lib.hid (show Has (cc.set N (48 + (c.toNat - 48))) 0 (D ++ [c.toNat - 48]) from HH.out.snoc (by rw [HN.out]; omega) (by omega))
        have HBS := Lib.hid (below_draws' ((HB.out.setCell (p := ⟨b, N, none⟩) (Nat.le_refl _) (Value.int .u8 (c.toNat : Int)))) 1)
        have c800 : b = b ∧ ¬ N = 800 := ⟨rfl, by omega⟩
        have hN8 : ¬ N = 800 := by omega
        have hks0 : (0 : Int) ≤ (k : Int) := by omega
        by_cases hz48 : c.toNat = 48
        · have k5 : ((c.toNat : Int) == 48) = true := by rw [beq_iff_eq]; omega
          have k6 : ((N : Int) == 0) = false := by rw [beq_eq_false_iff_ne]; omega
          clear hst hcl hz hz' c800 hz48
          go_wp2_with fail
          go_region
          go_wp2_with fail
          have hlen : (((D ++ [c.toNat - 48]).length : Nat) : Int) = (N : Int) + 1 := by rw [List.length_append, HN.out]; rfl
          refine ⟨⟨k + 1, cc.set N (48 + (c.toNat - 48)), by omega, by go_num, by rw [HST.out], by rw [HST.out], ?_, by rw [HST.out]; exact HHS.out, ?_⟩, by simp [intOf]; omega⟩
          · rw [HST.out]
            show Dcm _ b _ (((D ++ [c.toNat - 48]).length : Nat) : Int) dp false false
            rw [hlen]
            exact HMS.out.setNd _
          · exact HBS.out.setCell (p := ⟨b, 800, none⟩) (Nat.le_refl _) _
        · have k5 : ((c.toNat : Int) == 48) = false := by rw [beq_eq_false_iff_ne]; omega
          clear hst hcl hz hz' c800
          go_wp2_with fail
          go_region
          go_wp2_with fail
          have hlen : (((D ++ [c.toNat - 48]).length : Nat) : Int) = (N : Int) + 1 := by rw [List.length_append, HN.out]; rfl
          refine ⟨⟨k + 1, cc.set N (48 + (c.toNat - 48)), by omega, by go_num, by rw [HST.out], by rw [HST.out], ?_, by rw [HST.out]; exact HHS.out, ?_⟩, by simp [intOf]; omega⟩
          · rw [HST.out]
            show Dcm _ b _ (((D ++ [c.toNat - 48]).length : Nat) : Int) dp false false
            rw [hlen]
            exact HMS.out.setNd _
          · exact HBS.out.setCell (p := ⟨b, 800, none⟩) (Nat.le_refl _) _
  · obtain rfl : k = P := by omega
    have t1 := (H.out.rs_ss (Nat.le_refl _)).dot.symm.trans H.out.dot
    have t2 := (H.out.rs_ss (Nat.le_refl _)).dig.symm.trans H.out.dig
    clear hk hlt
    obtain ⟨σ, hσ⟩ : ∃ σ, ssAt s.data.toList k = σ := ⟨_, rfl⟩
    rw [hσ] at t1 t2 HM HH hok1 hok2 hok3 m0 m1 ⊢
    obtain ⟨D, dp, dot, dig⟩ := σ
    dsimp only at t1 t2 HM HH hok1 hok2 hok3 m0 m1
    subst t1 t2
    have HSG := Lib.hid hσ
    clear hσ hcl
    have e2 : s[k] = 101 := Option.some.inj ((HGET.out k (by omega)).symm.trans HE.out)
    have hks : (k : Int) < (s.size : Int) := by omega
    obtain ⟨Q, hQ⟩ : ∃ Q, k + 1 = Q := ⟨_, rfl⟩
    have hQs : Q < s.size := by omega
    obtain ⟨cq, hcq⟩ : ∃ c, (s[Q]'hQs) = c := ⟨_, rfl⟩
    have HDQ := Lib.hid (HDS.out Q cq (by omega) ((HGET.out Q (by omega)).trans (congrArg some hcq)))
    have r1 : ¬ (cq.toNat : Int) < 48 := by have := HDQ.out; simp [isDig] at this; omega
    have r2 : ¬ (57 : Int) < (cq.toNat : Int) := by have := HDQ.out; simp [isDig] at this; omega
    have r3 : ((cq.toNat : Int) == 43) = false := by rw [beq_eq_false_iff_ne]; omega
    have r4 : ((cq.toNat : Int) == 45) = false := by rw [beq_eq_false_iff_ne]; omega
    have hQ1 : (k : Int) + 1 = (Q : Int) := by omega
    have hQ2 : (Q : Int) < (s.size : Int) := by omega
    have HQQ := Lib.hid hQ
    clear hQ
    go_wp2_with (go_at_call 204; refine (HL101.out _).mono ?_; rintro e wx ⟨rfl, rfl⟩)
    go_loopw [5, 9] (fun i ev wr2 => ∃ (j v : Nat), Q ≤ j ∧ j ≤ s.size ∧ i = .int .i64 j ∧ ev = .int .i64 v ∧ v < 10 ^ (j - Q) ∧ v = valD 0 ((s.data.toList.drop Q).take (j - Q)) ∧ wr = wr2) (fun i _ _ => s.size - (intOf i).toNat)
    case atStart => exact ⟨Q, 0, Nat.le_refl _, by omega, rfl, rfl, by simp, by simp [valD], rfl⟩
    case round =>
     obtain ⟨j, v, hj1, hj2, rfl, rfl, hv1, hv2, rfl⟩ := hrel
     have HV2 := Lib.hid hv2
     have HV1 := Lib.hid hv1
     clear hv2
     by_cases hjs : j < s.size
     · obtain ⟨c, hc⟩ : ∃ c, s[j] = c := ⟨_, rfl⟩
       have HC := Lib.hid ((HGET.out j hjs).trans (congrArg some hc))
       have hdg := HDS.out j c (by have := HQQ.out; omega) HC.out
       have k1 : (48 : Int) ≤ (c.toNat : Int) := by simp [isDig] at hdg; omega
       have k2 : (c.toNat : Int) ≤ 57 := by simp [isDig] at hdg; omega
       have k3 : ((c.toNat : Int) == 95) = false := by rw [beq_eq_false_iff_ne]; omega
       have hv99 : v < 100 := by
        have : 10 ^ (j - Q) ≤ 10 ^ 2 := Nat.pow_le_pow_right (by decide) (by have := HQQ.out; omega)
        omega
       have HNX := Lib.hid (valD_next (L := s.data.toList) (Q := Q) (j := j) hj1 HC.out)
       have hcv : (((v * 10 + (c.toNat - 48) : Nat)) : Int) = (v : Int) * 10 + (c.toNat : Int) - 48 := by omega
       have HCV := Lib.hid hcv
       have hjs2 : (j : Int) < (s.size : Int) := by omega
       have hv3 : (v : Int) < 100 := by omega
       clear hdg hv1 hcv
       go_wp2_with fail
       refine ⟨⟨j + 1, v * 10 + (c.toNat - 48), by omega, by omega, by go_num, by rw [HCV.out], by have h1 := HV1.out; rw [show j + 1 - Q = (j - Q) + 1 by omega, Nat.pow_succ]; omega, by rw [HNX.out, ← HV2.out], ?_⟩, by simp [intOf]; omega⟩
       first | rfl | trivial
     · obtain rfl : j = s.size := by omega
       have HVV := Lib.hid (show (valD 0 (s.data.toList.drop Q) : Nat) = v by rw [HV2.out, List.take_of_length_le (by simp <;> omega)])
       have hv999 : v < 1000 := by
        have : 10 ^ (s.size - Q) ≤ 10 ^ 3 := Nat.pow_le_pow_right (by decide) (by have := HQQ.out; omega)
        omega
       clear hv1
       go_wp2_with fail
       first | rw [Exit.noGoto_ret] | skip
       go_ret
       have hQe := HQQ.out
       subst hQe
       refine ⟨rfl, cc, ?_, ?_, ?_⟩
       · rw [HSG.out, HVV.out]
         first | exact HM.out.setDp _ | (have h1 := HM.out.setDp (dp + v); trace_state; simpa using h1)
       · rw [HSG.out]; exact HH.out
       · exact HB.out.setCell (p := ⟨b, 801, none⟩) (Nat.le_refl _) _
theorem set_2 (s : ByteArray) (P b : Nat) (c : List Nat) (ng tr : Bool) (w : World) (h : Scan s.data.toList P) (hP : P + 2 < s.size) (hPs : s.size ≤ P + 5) (he : s.data.toList[P]? = some 101) (hg : s.data.toList[P + 1]? = some 43) (hds : ∀ k c, P + 2 ≤ k → s.data.toList[k]? = some c → isDig c = true) (hm : Dcm w b c 0 0 ng tr) :
  Calls Tryz.prog 219 #[.pointer (some ⟨b, 0, none⟩), .string s] w fun e w' => e = .returned (.bool true) ∧ SetPost w b (ssAt s.data.toList P) (valD 0 (s.data.toList.drop (P + 2)) : Nat) w' := by
 have hsz : s.data.toList.length = s.size := rfl
 have hs3 : 3 ≤ s.size := h.size
 have hs60 : s.size ≤ 60 := h.most
 have hPle : P ≤ s.size := h.le
 have hP2 := h.pos
 have H := Lib.hid h
 have HL101 := Lib.hid lower_101
 obtain ⟨c0, hc0, hd0⟩ := h.first
 have hget : ∀ k (hk : k < s.size), s.data.toList[k]? = some s[k] := fun k hk => by rw [List.getElem?_eq_getElem (by rw [hsz]; exact hk)]; rfl
 have HGET := Lib.hid hget
 have hp0 : 0 < s.size := by omega
 have hne : ¬ s = ByteArray.empty := by rintro rfl; simp at hs3
 have e0 : (s[0]'hp0) = c0 := Option.some.inj ((hget 0 (by omega)).symm.trans hc0)
 have f43 : ((c0.toNat : Int) == 43) = false := by simp [isDig] at hd0; rw [beq_eq_false_iff_ne]; omega
 have f45 : ((c0.toNat : Int) == 45) = false := by simp [isDig] at hd0; rw [beq_eq_false_iff_ne]; omega
 have HDC := Lib.hid ((hm.setNg false).setTr false)
 have m0 := hm.ng_
 have m1 := hm.tr_
 have q0 := hm.thaw 802
 have q1 := hm.thaw 803
 have HE := Lib.hid he
 have HDS := Lib.hid hds
 have HG := Lib.hid hg
 clear h hget hc0 hd0 hm he hds hg
 go_enter Tryz.func219, Tryz.ntmps219
 go_wp2_with fail
 go_outline
 first | go_step3 | skip
 go_wp2_with fail
 first | go_step3 | skip
 go_wp2_with fail
 go_outline
 have HB0 := Lib.hid (((Below.refl b w).setCell (p := ⟨b, 802, none⟩) (Nat.le_refl _) (Value.bool false)).setCell (p := ⟨b, 803, none⟩) (Nat.le_refl _) (Value.bool false))
 clear m0 m1 q0 q1
 go_loopw [5, 6, 7] (fun iv dotv digv wr => ∃ (k : Nat) (cc : List Nat), k ≤ P ∧ iv = .int .i64 k ∧ dotv = .bool (ssAt s.data.toList k).dot ∧ digv = .bool (ssAt s.data.toList k).dig ∧ Dcm wr b cc ((ssAt s.data.toList k).D.length : Int) (ssAt s.data.toList k).dp false false ∧ Has cc 0 (ssAt s.data.toList k).D ∧ Below b w wr) (fun iv _ _ _ => P - (intOf iv).toNat)
 case atStart => exact ⟨0, c, Nat.zero_le _, rfl, rfl, rfl, HDC.out, Has.nil, HB0.out⟩
 case round =>
  obtain ⟨k, cc, hk, rfl, rfl, rfl, hM, hH, hB⟩ := hrel
  have HM := Lib.hid hM
  have HH := Lib.hid hH
  have HB := Lib.hid hB
  have HOK := Lib.hid (SS.ok s.data.toList k)
  have hok1 := (SS.ok s.data.toList k).len
  have hok2 := (SS.ok s.data.toList k).dp0
  have hok3 := (SS.ok s.data.toList k).dp1
  have m0 := hM.nd_
  have m1 := hM.dp_
  have q0 := hM.thaw 800
  have q1 := hM.thaw 801
  have hcl := hM.len
  clear hM hH hB
  by_cases hlt : k < P
  · obtain ⟨c, hc⟩ : ∃ c, s[k] = c := ⟨_, rfl⟩
    have HC := Lib.hid ((HGET.out k (by omega)).trans (congrArg some hc))
    have hst := ssAt_succ HC.out
    have HBY := Lib.hid (H.out.bytes k c hlt HC.out)
    have HDOT := Lib.hid (H.out.rs_ss hk)
    have hks : (k : Int) < (s.size : Int) := by omega
    generalize ssAt s.data.toList k = σ at *
    obtain ⟨D, dp, dot, dig⟩ := σ
    dsimp only at *
    obtain ⟨N, hN⟩ : ∃ N, D.length = N := ⟨_, rfl⟩
    rw [hN] at m0 hok1
    have HN := Lib.hid hN
    clear hN
    by_cases h46 : c = 46
    · have hdot : dot = false := by
       rcases HBY.out with h1 | ⟨_, h1⟩
       · rw [h46] at h1; exact absurd h1 (by decide)
       · exact HDOT.out.dot.symm.trans h1
      subst h46 hdot
      rw [ss_dot] at hst
      have HST := Lib.hid hst
      clear hst hcl
      go_wp2_with fail
      refine ⟨⟨k + 1, cc, by omega, by go_num, by rw [HST.out], by rw [HST.out], by rw [HST.out]; simpa [HN.out] using HM.out.setDp N, by rw [HST.out]; exact HH.out, HB.out.setCell (p := ⟨b, 801, none⟩) (Nat.le_refl _) _⟩, by simp [intOf]; omega⟩
    · have hdg : isDig c = true := by
       rcases HBY.out with h1 | ⟨h1, _⟩
       · exact h1
       · exact absurd h1 h46
      have k1 : (48 : Int) ≤ (c.toNat : Int) := by simp [isDig] at hdg; omega
      have k2 : (c.toNat : Int) ≤ 57 := by simp [isDig] at hdg; omega
      have k3 : ((c.toNat : Int) == 95) = false := by rw [beq_eq_false_iff_ne]; omega
      have hc46 : c.toNat ≠ 46 := fun e => h46 (UInt8.toNat_inj.1 e)
      have k4 : ((c.toNat : Int) == 46) = false := by rw [beq_eq_false_iff_ne]; omega
      have H46 := Lib.hid h46
      clear h46 hdg
      by_cases hz : c.toNat = 48 ∧ N = 0
      · obtain ⟨hz1, hz2⟩ := hz
        subst hz2
        rw [ss_zero (UInt8.toNat_inj.1 hz1) (List.eq_nil_of_length_eq_zero HN.out)] at hst
        have HST := Lib.hid hst
        have k5 : ((c.toNat : Int) == 48) = true := by rw [beq_iff_eq]; omega
        clear hst hcl
        go_wp2_with fail
        refine ⟨⟨k + 1, cc, by omega, by go_num, by rw [HST.out], by rw [HST.out], by rw [HST.out]; exact HM.out.setDp _, by rw [HST.out]; exact HH.out, HB.out.setCell (p := ⟨b, 801, none⟩) (Nat.le_refl _) _⟩, by simp [intOf]; omega⟩
      · have hz' : ¬ (c = 48 ∧ D = []) := fun e => hz ⟨by rw [e.1]; rfl, by rw [← HN.out, e.2]; rfl⟩
        rw [ss_dig H46.out hz'] at hst
        have HST := Lib.hid hst
        have hN60 : N < 800 := by omega
        have g5 : (N : Int) < 800 := by omega
        have g6 : (0 : Int) ≤ (N : Int) := by omega
        have q2 := HM.out.thaw N
        obtain ⟨z, hzc⟩ : ∃ z, wr.cell? ⟨b, N, none⟩ = some (.int .u8 (z : Nat)) := by
         obtain ⟨z, hzc⟩ : ∃ z, cc[N]? = some z := ⟨_, List.getElem?_eq_getElem (show N < cc.length by omega)⟩
         exact ⟨z, HM.out.at_ hzc⟩
        have HMS := Lib.hid (show Dcm ((wr.setCell ⟨b, N, none⟩ (.int .u8 (c.toNat : Int))).drew) b (cc.set N (48 + (c.toNat - 48))) (D.length : Int) dp false false by
         have h1 := (HM.out.set N (48 + (c.toNat - 48)) hN60).drew
         rwa [show ((48 + (c.toNat - 48) : Nat) : Int) = (c.toNat : Int) by omega] at h1)
        have HHS := Lib.hid (show Has (cc.set N (48 + (c.toNat - 48))) 0 (D ++ [c.toNat - 48]) from HH.out.snoc (by rw [HN.out]; omega) (by omega))
        have HBS := Lib.hid (below_draws' ((HB.out.setCell (p := ⟨b, N, none⟩) (Nat.le_refl _) (Value.int .u8 (c.toNat : Int)))) 1)
        have c800 : b = b ∧ ¬ N = 800 := ⟨rfl, by omega⟩
        have hN8 : ¬ N = 800 := by omega
        have hks0 : (0 : Int) ≤ (k : Int) := by omega
        by_cases hz48 : c.toNat = 48
        · have k5 : ((c.toNat : Int) == 48) = true := by rw [beq_iff_eq]; omega
          have k6 : ((N : Int) == 0) = false := by rw [beq_eq_false_iff_ne]; omega
          clear hst hcl hz hz' c800 hz48
          go_wp2_with fail
          go_region
          go_wp2_with fail
          have hlen : (((D ++ [c.toNat - 48]).length : Nat) : Int) = (N : Int) + 1 := by rw [List.length_append, HN.out]; rfl
          refine ⟨⟨k + 1, cc.set N (48 + (c.toNat - 48)), by omega, by go_num, by rw [HST.out], by rw [HST.out], ?_, by rw [HST.out]; exact HHS.out, ?_⟩, by simp [intOf]; omega⟩
          · rw [HST.out]
            show Dcm _ b _ (((D ++ [c.toNat - 48]).length : Nat) : Int) dp false false
            rw [hlen]
            exact HMS.out.setNd _
          · exact HBS.out.setCell (p := ⟨b, 800, none⟩) (Nat.le_refl _) _
        · have k5 : ((c.toNat : Int) == 48) = false := by rw [beq_eq_false_iff_ne]; omega
          clear hst hcl hz hz' c800
          go_wp2_with fail
          go_region
          go_wp2_with fail
          have hlen : (((D ++ [c.toNat - 48]).length : Nat) : Int) = (N : Int) + 1 := by rw [List.length_append, HN.out]; rfl
          refine ⟨⟨k + 1, cc.set N (48 + (c.toNat - 48)), by omega, by go_num, by rw [HST.out], by rw [HST.out], ?_, by rw [HST.out]; exact HHS.out, ?_⟩, by simp [intOf]; omega⟩
          · rw [HST.out]
            show Dcm _ b _ (((D ++ [c.toNat - 48]).length : Nat) : Int) dp false false
            rw [hlen]
            exact HMS.out.setNd _
          · exact HBS.out.setCell (p := ⟨b, 800, none⟩) (Nat.le_refl _) _
  · obtain rfl : k = P := by omega
    have t1 := (H.out.rs_ss (Nat.le_refl _)).dot.symm.trans H.out.dot
    have t2 := (H.out.rs_ss (Nat.le_refl _)).dig.symm.trans H.out.dig
    clear hk hlt
    obtain ⟨σ, hσ⟩ : ∃ σ, ssAt s.data.toList k = σ := ⟨_, rfl⟩
    rw [hσ] at t1 t2 HM HH hok1 hok2 hok3 m0 m1 ⊢
    obtain ⟨D, dp, dot, dig⟩ := σ
    dsimp only at t1 t2 HM HH hok1 hok2 hok3 m0 m1
    subst t1 t2
    have HSG := Lib.hid hσ
    clear hσ hcl
    have e2 : s[k] = 101 := Option.some.inj ((HGET.out k (by omega)).symm.trans HE.out)
    have hks : (k : Int) < (s.size : Int) := by omega
    have e3 : s[k + 1] = 43 := Option.some.inj ((HGET.out (k + 1) (by omega)).symm.trans HG.out)
    have hks2 : (k : Int) + 1 < (s.size : Int) := by omega
    obtain ⟨Q, hQ⟩ : ∃ Q, k + 2 = Q := ⟨_, rfl⟩
    have hQs : Q < s.size := by omega
    obtain ⟨cq, hcq⟩ : ∃ c, (s[Q]'hQs) = c := ⟨_, rfl⟩
    have HDQ := Lib.hid (HDS.out Q cq (by omega) ((HGET.out Q (by omega)).trans (congrArg some hcq)))
    have r1 : ¬ (cq.toNat : Int) < 48 := by have := HDQ.out; simp [isDig] at this; omega
    have r2 : ¬ (57 : Int) < (cq.toNat : Int) := by have := HDQ.out; simp [isDig] at this; omega
    have r3 : ((cq.toNat : Int) == 43) = false := by rw [beq_eq_false_iff_ne]; omega
    have r4 : ((cq.toNat : Int) == 45) = false := by rw [beq_eq_false_iff_ne]; omega
    have hQ1 : (k : Int) + 1 + 1 = (Q : Int) := by omega
    have hQ2 : (Q : Int) < (s.size : Int) := by omega
    have HQQ := Lib.hid hQ
    clear hQ
    go_wp2_with (go_at_call 204; refine (HL101.out _).mono ?_; rintro e wx ⟨rfl, rfl⟩)
    go_loopw [5, 9] (fun i ev wr2 => ∃ (j v : Nat), Q ≤ j ∧ j ≤ s.size ∧ i = .int .i64 j ∧ ev = .int .i64 v ∧ v < 10 ^ (j - Q) ∧ v = valD 0 ((s.data.toList.drop Q).take (j - Q)) ∧ wr = wr2) (fun i _ _ => s.size - (intOf i).toNat)
    case atStart => exact ⟨Q, 0, Nat.le_refl _, by omega, rfl, rfl, by simp, by simp [valD], rfl⟩
    case round =>
     obtain ⟨j, v, hj1, hj2, rfl, rfl, hv1, hv2, rfl⟩ := hrel
     have HV2 := Lib.hid hv2
     have HV1 := Lib.hid hv1
     clear hv2
     by_cases hjs : j < s.size
     · obtain ⟨c, hc⟩ : ∃ c, s[j] = c := ⟨_, rfl⟩
       have HC := Lib.hid ((HGET.out j hjs).trans (congrArg some hc))
       have hdg := HDS.out j c (by have := HQQ.out; omega) HC.out
       have k1 : (48 : Int) ≤ (c.toNat : Int) := by simp [isDig] at hdg; omega
       have k2 : (c.toNat : Int) ≤ 57 := by simp [isDig] at hdg; omega
       have k3 : ((c.toNat : Int) == 95) = false := by rw [beq_eq_false_iff_ne]; omega
       have hv99 : v < 100 := by
        have : 10 ^ (j - Q) ≤ 10 ^ 2 := Nat.pow_le_pow_right (by decide) (by have := HQQ.out; omega)
        omega
       have HNX := Lib.hid (valD_next (L := s.data.toList) (Q := Q) (j := j) hj1 HC.out)
       have hcv : (((v * 10 + (c.toNat - 48) : Nat)) : Int) = (v : Int) * 10 + (c.toNat : Int) - 48 := by omega
       have HCV := Lib.hid hcv
       have hjs2 : (j : Int) < (s.size : Int) := by omega
       have hv3 : (v : Int) < 100 := by omega
       clear hdg hv1 hcv
       go_wp2_with fail
       refine ⟨⟨j + 1, v * 10 + (c.toNat - 48), by omega, by omega, by go_num, by rw [HCV.out], by have h1 := HV1.out; rw [show j + 1 - Q = (j - Q) + 1 by omega, Nat.pow_succ]; omega, by rw [HNX.out, ← HV2.out], ?_⟩, by simp [intOf]; omega⟩
       first | rfl | trivial
     · obtain rfl : j = s.size := by omega
       have HVV := Lib.hid (show (valD 0 (s.data.toList.drop Q) : Nat) = v by rw [HV2.out, List.take_of_length_le (by simp <;> omega)])
       have hv999 : v < 1000 := by
        have : 10 ^ (s.size - Q) ≤ 10 ^ 3 := Nat.pow_le_pow_right (by decide) (by have := HQQ.out; omega)
        omega
       clear hv1
       go_wp2_with fail
       first | rw [Exit.noGoto_ret] | skip
       go_ret
       have hQe := HQQ.out
       subst hQe
       refine ⟨rfl, cc, ?_, ?_, ?_⟩
       · rw [HSG.out, HVV.out]
         first | exact HM.out.setDp _ | (have h1 := HM.out.setDp (dp + v); trace_state; simpa using h1)
       · rw [HSG.out]; exact HH.out
       · exact HB.out.setCell (p := ⟨b, 801, none⟩) (Nat.le_refl _) _
theorem set_3 (s : ByteArray) (P b : Nat) (c : List Nat) (ng tr : Bool) (w : World) (h : Scan s.data.toList P) (hP : P + 2 < s.size) (hPs : s.size ≤ P + 5) (he : s.data.toList[P]? = some 101) (hg : s.data.toList[P + 1]? = some 45) (hds : ∀ k c, P + 2 ≤ k → s.data.toList[k]? = some c → isDig c = true) (hm : Dcm w b c 0 0 ng tr) :
  Calls Tryz.prog 219 #[.pointer (some ⟨b, 0, none⟩), .string s] w fun e w' => e = .returned (.bool true) ∧ SetPost w b (ssAt s.data.toList P) (-(valD 0 (s.data.toList.drop (P + 2)) : Nat)) w' := by
 have hsz : s.data.toList.length = s.size := rfl
 have hs3 : 3 ≤ s.size := h.size
 have hs60 : s.size ≤ 60 := h.most
 have hPle : P ≤ s.size := h.le
 have hP2 := h.pos
 have H := Lib.hid h
 have HL101 := Lib.hid lower_101
 obtain ⟨c0, hc0, hd0⟩ := h.first
 have hget : ∀ k (hk : k < s.size), s.data.toList[k]? = some s[k] := fun k hk => by rw [List.getElem?_eq_getElem (by rw [hsz]; exact hk)]; rfl
 have HGET := Lib.hid hget
 have hp0 : 0 < s.size := by omega
 have hne : ¬ s = ByteArray.empty := by rintro rfl; simp at hs3
 have e0 : (s[0]'hp0) = c0 := Option.some.inj ((hget 0 (by omega)).symm.trans hc0)
 have f43 : ((c0.toNat : Int) == 43) = false := by simp [isDig] at hd0; rw [beq_eq_false_iff_ne]; omega
 have f45 : ((c0.toNat : Int) == 45) = false := by simp [isDig] at hd0; rw [beq_eq_false_iff_ne]; omega
 have HDC := Lib.hid ((hm.setNg false).setTr false)
 have m0 := hm.ng_
 have m1 := hm.tr_
 have q0 := hm.thaw 802
 have q1 := hm.thaw 803
 have HE := Lib.hid he
 have HDS := Lib.hid hds
 have HG := Lib.hid hg
 clear h hget hc0 hd0 hm he hds hg
 go_enter Tryz.func219, Tryz.ntmps219
 go_wp2_with fail
 go_outline
 first | go_step3 | skip
 go_wp2_with fail
 first | go_step3 | skip
 go_wp2_with fail
 go_outline
 have HB0 := Lib.hid (((Below.refl b w).setCell (p := ⟨b, 802, none⟩) (Nat.le_refl _) (Value.bool false)).setCell (p := ⟨b, 803, none⟩) (Nat.le_refl _) (Value.bool false))
 clear m0 m1 q0 q1
 go_loopw [5, 6, 7] (fun iv dotv digv wr => ∃ (k : Nat) (cc : List Nat), k ≤ P ∧ iv = .int .i64 k ∧ dotv = .bool (ssAt s.data.toList k).dot ∧ digv = .bool (ssAt s.data.toList k).dig ∧ Dcm wr b cc ((ssAt s.data.toList k).D.length : Int) (ssAt s.data.toList k).dp false false ∧ Has cc 0 (ssAt s.data.toList k).D ∧ Below b w wr) (fun iv _ _ _ => P - (intOf iv).toNat)
 case atStart => exact ⟨0, c, Nat.zero_le _, rfl, rfl, rfl, HDC.out, Has.nil, HB0.out⟩
 case round =>
  obtain ⟨k, cc, hk, rfl, rfl, rfl, hM, hH, hB⟩ := hrel
  have HM := Lib.hid hM
  have HH := Lib.hid hH
  have HB := Lib.hid hB
  have HOK := Lib.hid (SS.ok s.data.toList k)
  have hok1 := (SS.ok s.data.toList k).len
  have hok2 := (SS.ok s.data.toList k).dp0
  have hok3 := (SS.ok s.data.toList k).dp1
  have m0 := hM.nd_
  have m1 := hM.dp_
  have q0 := hM.thaw 800
  have q1 := hM.thaw 801
  have hcl := hM.len
  clear hM hH hB
  by_cases hlt : k < P
  · obtain ⟨c, hc⟩ : ∃ c, s[k] = c := ⟨_, rfl⟩
    have HC := Lib.hid ((HGET.out k (by omega)).trans (congrArg some hc))
    have hst := ssAt_succ HC.out
    have HBY := Lib.hid (H.out.bytes k c hlt HC.out)
    have HDOT := Lib.hid (H.out.rs_ss hk)
    have hks : (k : Int) < (s.size : Int) := by omega
    generalize ssAt s.data.toList k = σ at *
    obtain ⟨D, dp, dot, dig⟩ := σ
    dsimp only at *
    obtain ⟨N, hN⟩ : ∃ N, D.length = N := ⟨_, rfl⟩
    rw [hN] at m0 hok1
    have HN := Lib.hid hN
    clear hN
    by_cases h46 : c = 46
    · have hdot : dot = false := by
       rcases HBY.out with h1 | ⟨_, h1⟩
       · rw [h46] at h1; exact absurd h1 (by decide)
       · exact HDOT.out.dot.symm.trans h1
      subst h46 hdot
      rw [ss_dot] at hst
      have HST := Lib.hid hst
      clear hst hcl
      go_wp2_with fail
      refine ⟨⟨k + 1, cc, by omega, by go_num, by rw [HST.out], by rw [HST.out], by rw [HST.out]; simpa [HN.out] using HM.out.setDp N, by rw [HST.out]; exact HH.out, HB.out.setCell (p := ⟨b, 801, none⟩) (Nat.le_refl _) _⟩, by simp [intOf]; omega⟩
    · have hdg : isDig c = true := by
       rcases HBY.out with h1 | ⟨h1, _⟩
       · exact h1
       · exact absurd h1 h46
      have k1 : (48 : Int) ≤ (c.toNat : Int) := by simp [isDig] at hdg; omega
      have k2 : (c.toNat : Int) ≤ 57 := by simp [isDig] at hdg; omega
      have k3 : ((c.toNat : Int) == 95) = false := by rw [beq_eq_false_iff_ne]; omega
      have hc46 : c.toNat ≠ 46 := fun e => h46 (UInt8.toNat_inj.1 e)
      have k4 : ((c.toNat : Int) == 46) = false := by rw [beq_eq_false_iff_ne]; omega
      have H46 := Lib.hid h46
      clear h46 hdg
      by_cases hz : c.toNat = 48 ∧ N = 0
      · obtain ⟨hz1, hz2⟩ := hz
        subst hz2
        rw [ss_zero (UInt8.toNat_inj.1 hz1) (List.eq_nil_of_length_eq_zero HN.out)] at hst
        have HST := Lib.hid hst
        have k5 : ((c.toNat : Int) == 48) = true := by rw [beq_iff_eq]; omega
        clear hst hcl
        go_wp2_with fail
        refine ⟨⟨k + 1, cc, by omega, by go_num, by rw [HST.out], by rw [HST.out], by rw [HST.out]; exact HM.out.setDp _, by rw [HST.out]; exact HH.out, HB.out.setCell (p := ⟨b, 801, none⟩) (Nat.le_refl _) _⟩, by simp [intOf]; omega⟩
      · have hz' : ¬ (c = 48 ∧ D = []) := fun e => hz ⟨by rw [e.1]; rfl, by rw [← HN.out, e.2]; rfl⟩
        rw [ss_dig H46.out hz'] at hst
        have HST := Lib.hid hst
        have hN60 : N < 800 := by omega
        have g5 : (N : Int) < 800 := by omega
        have g6 : (0 : Int) ≤ (N : Int) := by omega
        have q2 := HM.out.thaw N
        obtain ⟨z, hzc⟩ : ∃ z, wr.cell? ⟨b, N, none⟩ = some (.int .u8 (z : Nat)) := by
         obtain ⟨z, hzc⟩ : ∃ z, cc[N]? = some z := ⟨_, List.getElem?_eq_getElem (show N < cc.length by omega)⟩
         exact ⟨z, HM.out.at_ hzc⟩
        have HMS := Lib.hid (show Dcm ((wr.setCell ⟨b, N, none⟩ (.int .u8 (c.toNat : Int))).drew) b (cc.set N (48 + (c.toNat - 48))) (D.length : Int) dp false false by
         have h1 := (HM.out.set N (48 + (c.toNat - 48)) hN60).drew
         rwa [show ((48 + (c.toNat - 48) : Nat) : Int) = (c.toNat : Int) by omega] at h1)
        have HHS := Lib.hid (show Has (cc.set N (48 + (c.toNat - 48))) 0 (D ++ [c.toNat - 48]) from HH.out.snoc (by rw [HN.out]; omega) (by omega))
        have HBS := Lib.hid (below_draws' ((HB.out.setCell (p := ⟨b, N, none⟩) (Nat.le_refl _) (Value.int .u8 (c.toNat : Int)))) 1)
        have c800 : b = b ∧ ¬ N = 800 := ⟨rfl, by omega⟩
        have hN8 : ¬ N = 800 := by omega
        have hks0 : (0 : Int) ≤ (k : Int) := by omega
        by_cases hz48 : c.toNat = 48
        · have k5 : ((c.toNat : Int) == 48) = true := by rw [beq_iff_eq]; omega
          have k6 : ((N : Int) == 0) = false := by rw [beq_eq_false_iff_ne]; omega
          clear hst hcl hz hz' c800 hz48
          go_wp2_with fail
          go_region
          go_wp2_with fail
          have hlen : (((D ++ [c.toNat - 48]).length : Nat) : Int) = (N : Int) + 1 := by rw [List.length_append, HN.out]; rfl
          refine ⟨⟨k + 1, cc.set N (48 + (c.toNat - 48)), by omega, by go_num, by rw [HST.out], by rw [HST.out], ?_, by rw [HST.out]; exact HHS.out, ?_⟩, by simp [intOf]; omega⟩
          · rw [HST.out]
            show Dcm _ b _ (((D ++ [c.toNat - 48]).length : Nat) : Int) dp false false
            rw [hlen]
            exact HMS.out.setNd _
          · exact HBS.out.setCell (p := ⟨b, 800, none⟩) (Nat.le_refl _) _
        · have k5 : ((c.toNat : Int) == 48) = false := by rw [beq_eq_false_iff_ne]; omega
          clear hst hcl hz hz' c800
          go_wp2_with fail
          go_region
          go_wp2_with fail
          have hlen : (((D ++ [c.toNat - 48]).length : Nat) : Int) = (N : Int) + 1 := by rw [List.length_append, HN.out]; rfl
          refine ⟨⟨k + 1, cc.set N (48 + (c.toNat - 48)), by omega, by go_num, by rw [HST.out], by rw [HST.out], ?_, by rw [HST.out]; exact HHS.out, ?_⟩, by simp [intOf]; omega⟩
          · rw [HST.out]
            show Dcm _ b _ (((D ++ [c.toNat - 48]).length : Nat) : Int) dp false false
            rw [hlen]
            exact HMS.out.setNd _
          · exact HBS.out.setCell (p := ⟨b, 800, none⟩) (Nat.le_refl _) _
  · obtain rfl : k = P := by omega
    have t1 := (H.out.rs_ss (Nat.le_refl _)).dot.symm.trans H.out.dot
    have t2 := (H.out.rs_ss (Nat.le_refl _)).dig.symm.trans H.out.dig
    clear hk hlt
    obtain ⟨σ, hσ⟩ : ∃ σ, ssAt s.data.toList k = σ := ⟨_, rfl⟩
    rw [hσ] at t1 t2 HM HH hok1 hok2 hok3 m0 m1 ⊢
    obtain ⟨D, dp, dot, dig⟩ := σ
    dsimp only at t1 t2 HM HH hok1 hok2 hok3 m0 m1
    subst t1 t2
    have HSG := Lib.hid hσ
    clear hσ hcl
    have e2 : s[k] = 101 := Option.some.inj ((HGET.out k (by omega)).symm.trans HE.out)
    have hks : (k : Int) < (s.size : Int) := by omega
    have e3 : s[k + 1] = 45 := Option.some.inj ((HGET.out (k + 1) (by omega)).symm.trans HG.out)
    have hks2 : (k : Int) + 1 < (s.size : Int) := by omega
    obtain ⟨Q, hQ⟩ : ∃ Q, k + 2 = Q := ⟨_, rfl⟩
    have hQs : Q < s.size := by omega
    obtain ⟨cq, hcq⟩ : ∃ c, (s[Q]'hQs) = c := ⟨_, rfl⟩
    have HDQ := Lib.hid (HDS.out Q cq (by omega) ((HGET.out Q (by omega)).trans (congrArg some hcq)))
    have r1 : ¬ (cq.toNat : Int) < 48 := by have := HDQ.out; simp [isDig] at this; omega
    have r2 : ¬ (57 : Int) < (cq.toNat : Int) := by have := HDQ.out; simp [isDig] at this; omega
    have r3 : ((cq.toNat : Int) == 43) = false := by rw [beq_eq_false_iff_ne]; omega
    have r4 : ((cq.toNat : Int) == 45) = false := by rw [beq_eq_false_iff_ne]; omega
    have hQ1 : (k : Int) + 1 + 1 = (Q : Int) := by omega
    have hQ2 : (Q : Int) < (s.size : Int) := by omega
    have HQQ := Lib.hid hQ
    clear hQ
    go_wp2_with (go_at_call 204; refine (HL101.out _).mono ?_; rintro e wx ⟨rfl, rfl⟩)
    go_loopw [5, 9] (fun i ev wr2 => ∃ (j v : Nat), Q ≤ j ∧ j ≤ s.size ∧ i = .int .i64 j ∧ ev = .int .i64 v ∧ v < 10 ^ (j - Q) ∧ v = valD 0 ((s.data.toList.drop Q).take (j - Q)) ∧ wr = wr2) (fun i _ _ => s.size - (intOf i).toNat)
    case atStart => exact ⟨Q, 0, Nat.le_refl _, by omega, rfl, rfl, by simp, by simp [valD], rfl⟩
    case round =>
     obtain ⟨j, v, hj1, hj2, rfl, rfl, hv1, hv2, rfl⟩ := hrel
     have HV2 := Lib.hid hv2
     have HV1 := Lib.hid hv1
     clear hv2
     by_cases hjs : j < s.size
     · obtain ⟨c, hc⟩ : ∃ c, s[j] = c := ⟨_, rfl⟩
       have HC := Lib.hid ((HGET.out j hjs).trans (congrArg some hc))
       have hdg := HDS.out j c (by have := HQQ.out; omega) HC.out
       have k1 : (48 : Int) ≤ (c.toNat : Int) := by simp [isDig] at hdg; omega
       have k2 : (c.toNat : Int) ≤ 57 := by simp [isDig] at hdg; omega
       have k3 : ((c.toNat : Int) == 95) = false := by rw [beq_eq_false_iff_ne]; omega
       have hv99 : v < 100 := by
        have : 10 ^ (j - Q) ≤ 10 ^ 2 := Nat.pow_le_pow_right (by decide) (by have := HQQ.out; omega)
        omega
       have HNX := Lib.hid (valD_next (L := s.data.toList) (Q := Q) (j := j) hj1 HC.out)
       have hcv : (((v * 10 + (c.toNat - 48) : Nat)) : Int) = (v : Int) * 10 + (c.toNat : Int) - 48 := by omega
       have HCV := Lib.hid hcv
       have hjs2 : (j : Int) < (s.size : Int) := by omega
       have hv3 : (v : Int) < 100 := by omega
       clear hdg hv1 hcv
       go_wp2_with fail
       refine ⟨⟨j + 1, v * 10 + (c.toNat - 48), by omega, by omega, by go_num, by rw [HCV.out], by have h1 := HV1.out; rw [show j + 1 - Q = (j - Q) + 1 by omega, Nat.pow_succ]; omega, by rw [HNX.out, ← HV2.out], ?_⟩, by simp [intOf]; omega⟩
       first | rfl | trivial
     · obtain rfl : j = s.size := by omega
       have HVV := Lib.hid (show (valD 0 (s.data.toList.drop Q) : Nat) = v by rw [HV2.out, List.take_of_length_le (by simp <;> omega)])
       have hv999 : v < 1000 := by
        have : 10 ^ (s.size - Q) ≤ 10 ^ 3 := Nat.pow_le_pow_right (by decide) (by have := HQQ.out; omega)
        omega
       clear hv1
       go_wp2_with fail
       first | rw [Exit.noGoto_ret] | skip
       go_ret
       have hQe := HQQ.out
       subst hQe
       refine ⟨rfl, cc, ?_, ?_, ?_⟩
       · rw [HSG.out, HVV.out]
         first | exact HM.out.setDp _ | (have h1 := HM.out.setDp (dp + -v); trace_state; simpa using h1)
       · rw [HSG.out]; exact HH.out
       · exact HB.out.setCell (p := ⟨b, 801, none⟩) (Nat.le_refl _) _
end Go.Proofs.YtacdfjlncfidgaaGreatDoor
