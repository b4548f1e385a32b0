/- The document's Float of a literal (with a power). -/
import Derived.Test.YtclbmmiedihepaaGreatDoorQZa
namespace Go.Proofs.YtclbmmiedihepaaGreatDoor
open Go.RowKit
set_option linter.unusedVariables false
set_option linter.unusedSimpArgs false
set_option maxRecDepth 100000 in
set_option maxHeartbeats 6400000 in
theorem ref16_e (s ALL S1 S2 R : ByteArray) (a b k1 k2 V K : Nat) (xe : Int) (w : World) (hK : K = 1074) (hs : s.size ≤ 60) (c0 c1 : UInt8)
  (hr0 : digN s.data.toList = a) (ha0 : a ≠ 0) (hc0 : s.data.toList[0]? = some c0) (hz : a = 1 ∨ c0 ≠ 48) (ha1 : a < s.size) (hc1 : s.data.toList[a]? = some c1) (h46 : c1 = 46)
  (hk1 : k1 = a + 1) (hr1 : digN (s.data.toList.drop k1) = b) (hb0 : b ≠ 0) (hk2 : k2 = k1 + b) (hk2s : k2 ≤ s.size) (hR : s.extract k2 s.size = R) (hR0 : 0 < R.size) (hR1 : R[0] = 101) (T : ByteArray) (hT : R.extract 1 R.size = T) (hE : ∀ W, Calls Tryz.prog 85 #[.string T] W fun e w' => e = .returned (.tuple #[.int .i64 xe, .bool true]) ∧ W = w')
  (hS1 : s.extract 0 a = S1) (hS2 : s.extract k1 k2 = S2) (hALL : S1 ++ S2 = ALL) (hAs : ALL.size ≤ 59) (hdig : ∀ c ∈ ALL.data.toList, isDig c = true) (hV : valD 0 ALL.data.toList = V) (hx0 : -1000 < xe) (hx1 : xe < 1000) :
  Calls Tryz.prog 62 #[.string s] w fun e w' => e = .returned (if rd10 V (xe - b) K = 9218868437227405312 then .tuple #[.int .u64 0, .int .i64 3] else .tuple #[.int .u64 (rd10 V (xe - b) K : Nat), .int .i64 0]) ∧ Below w.heap.size w w' := by
 have HRUN0 := Lib.hid (run_any s 0 w (by omega) (by omega))
 rw [List.drop_zero, hr0] at HRUN0
 have HRUN1 := Lib.hid (run_any s k1 w (by omega) (by omega))
 rw [hr1] at HRUN1
 obtain ⟨RES, hRES⟩ : ∃ RES, (if rd10 V (xe - b) K = 9218868437227405312 then Value.tuple #[.int .u64 0, .int .i64 3] else .tuple #[.int .u64 (rd10 V (xe - b) K : Nat), .int .i64 0]) = RES := ⟨_, rfl⟩
 rw [hRES]
 have HRES := Lib.hid hRES
 have HK := Lib.hid hK
 have HV := Lib.hid hV
 have HDIG := Lib.hid hdig
 have HB0 := Lib.hid (show b ≤ 60 by omega)
 have hsz : ALL.data.toList.length = ALL.size := rfl
 have HGET := Lib.hid (fun k (hk : k < ALL.size) => by rw [List.getElem?_eq_getElem (by rw [hsz]; exact hk)]; rfl : ∀ k (hk : k < ALL.size), ALL.data.toList[k]? = some ALL[k])
 have HLEN := Lib.hid (fun i => dig_len ALL.data.toList i (by rw [hsz]; exact hAs) hdig)
 have HO1 := Lib.hid (fun W => of_one W)
 have h10 : SMx 10 10 := ⟨rfl, Nat.le_refl _⟩
 have HOS := Lib.hid of_smx
 have hs0 : 0 < s.size := by omega
 have hg0 : s[0]'hs0 = c0 := by
  have h := List.getElem?_eq_getElem (l := s.data.toList) (i := 0) (by show 0 < s.size; omega)
  rw [hc0] at h
  exact (Option.some.inj h).symm
 have hga : s[a]'ha1 = c1 := by
  have h := List.getElem?_eq_getElem (l := s.data.toList) (i := a) (by show a < s.size; omega)
  rw [hc1] at h
  exact (Option.some.inj h).symm
 have p1 : ¬ (60 : Int) < (s.size : Int) := by omega
 have p2 : ¬ (a : Int) = 0 := by omega
 have p3 : ((a : Int) == 0) = false := by simpa using p2
 have p4 : ¬ (a : Int) = (s.size : Int) := by omega
 have p5 : ((a : Int) == (s.size : Int)) = false := by simpa using p4
 have p6 : (c1.toNat : Int) = 46 := by rw [h46]; rfl
 have p7 : ((c1.toNat : Int) != 46) = false := by rw [p6]; rfl
 have p8 : (a : Int) < (s.size : Int) := by omega
 have p9 : (0 : Int) < (s.size : Int) := by omega
 have p10 : (a : Int) + 1 = (k1 : Int) := by omega
 have p11 : (k1 : Int) + (b : Int) = (k2 : Int) := by omega
 have p12 : (k2 : Int) ≤ (s.size : Int) := by omega
 have p13 : ¬ (b : Int) = 0 := by omega
 have p14 : ((b : Int) == 0) = false := by simpa using p13
 have p15 : (k1 : Int) ≤ (k2 : Int) := by omega
 have p16 : (0 : Int) ≤ (k1 : Int) := by omega
 have p17 : (0 : Int) ≤ (a : Int) := by omega
 have p18 : (a : Int) ≤ (s.size : Int) := by omega
 have p19 : IntKind.i64.wrap (k1 : Int) = (k1 : Int) := by simp [IntKind.wrap, IntKind.bits, IntKind.signed]; omega
 have p20 : IntKind.i64.wrap (k2 : Int) = (k2 : Int) := by simp [IntKind.wrap, IntKind.bits, IntKind.signed]; omega
 have p21 : S1.size + S2.size ≤ 9223372036854775807 := by
  have h : ALL.size = S1.size + S2.size := by rw [← hALL]; exact ByteArray.size_append
  omega
 have main : (¬ (1 : Int) < (a : Int)) ∨ ((1 : Int) < (a : Int) ∧ ¬ (c0.toNat : Int) = 48) := by
  rcases hz with h | h
  · exact .inl (by omega)
  · by_cases h2 : (1 : Int) < (a : Int)
    · exact .inr ⟨h2, u8_ne h⟩
    · exact .inl h2
 have HE := Lib.hid hE
 have q1 : ¬ (R.size : Int) = 0 := by omega
 have q2 : ((R.size : Int) == 0) = false := by simpa using q1
 have q3 : ¬ R = ByteArray.empty := fun e => by rw [e] at hR0; exact absurd hR0 (Nat.not_lt_zero _)
 have q5 : ¬ R.toList = [] := by rw [ByteArray.toList_eq]; intro hc; exact q3 (ba_nil (by show R.data.toList.length = 0; rw [hc]; rfl))
 have q6 : (!R.toList.isEmpty) = true := by simpa using q5
 have q7 : (0 : Int) < (R.size : Int) := by omega
 have q8 : (1 : Int) ≤ (R.size : Int) := by omega
 obtain ⟨rc, hrc⟩ : ∃ rc, R[0] = rc := ⟨_, rfl⟩
 have q9 : (rc.toNat : Int) = 101 := by rw [← hrc, hR1]; rfl
 have q10 : ((rc.toNat : Int) != 101) = false := by rw [q9]; rfl
 clear hE hR1
 have HKS := Lib.hid (And.intro hk1 (And.intro hk2 hk2s))
 clear hRES hK hV hdig hr0 hr1 hc0 hc1 h46 hz hb0 hk1 hk2 hk2s
 rcases main with m1 | ⟨m1, m2⟩
 · skip
   go_enter Tryz.func62, Tryz.ntmps62
   go_wp2_with fail
   refine HRUN0.out.mono ?_
   rintro e wx ⟨rfl, rfl⟩
   go_wp2_with fail
   refine HRUN1.out.mono ?_
   rintro e wx ⟨rfl, rfl⟩
   go_wp2_with fail
   refine (HE.out _).mono ?_
   rintro e wx ⟨rfl, rfl⟩
   go_wp2_with fail
   go_quiet (fail)
   go_wp2_with fail
   go_loopw [11, 12] (fun pv iv wr => ∃ (i c : Nat) (A : Option Addr), pv = .slice A (dg16 (valD 0 (ALL.data.toList.take i))).length c ∧ iv = .int .i64 i ∧ i ≤ ALL.size ∧ RowOf uc 1 wr wr.heap.size A (dg16 (valD 0 (ALL.data.toList.take i))) ∧ Below w.heap.size w wr) (fun _ iv _ => ALL.size - (intOf iv).toNat)
   case atStart =>
    have e0 : dg16 (valD 0 (ALL.data.toList.take 0)) = [] := dg16_zero
    exact ⟨0, 0, none, by rw [e0]; rfl, rfl, Nat.zero_le _, by rw [e0]; exact RowOf.nil_, below_draws (Below.refl _ _) _⟩
   case round =>
    obtain ⟨i, c, A, rfl, rfl, hi, hr, hb⟩ := hrel
    have HB := Lib.hid hb
    have HLi := Lib.hid (HLEN.out i)
    obtain ⟨X, hX⟩ : ∃ X, valD 0 (ALL.data.toList.take i) = X := ⟨_, rfl⟩
    rw [hX] at hr HLi ⊢
    have HX := Lib.hid hX
    have HR := Lib.hid hr
    clear hb hX hr
    by_cases hlt : i < ALL.size
    · obtain ⟨x, hx⟩ : ∃ x, ALL[i] = x := ⟨_, rfl⟩
      have HXX := Lib.hid ((HGET.out i hlt).trans (congrArg some hx))
      have hcd := HDIG.out x (List.mem_of_getElem? HXX.out)
      have hcc : 48 ≤ x.toNat ∧ x.toNat ≤ 57 := by simpa [isDig] using hcd
      obtain ⟨k, hk⟩ : ∃ k, x.toNat = 48 + k := ⟨x.toNat - 48, by omega⟩
      have hk9 : k ≤ 9 := by omega
      have HN := Lib.hid (show valD 0 (ALL.data.toList.take (i + 1)) = X * 10 + k by rw [valD_take _ _ HXX.out, HX.out, hk]; omega)
      have hKK : SMx (k : Int) k := ⟨rfl, by omega⟩
      have HL2 := Lib.hid (len_mul X 10)
      have HL10 := Lib.hid (dg16_len 4 10 (by decide))
      have HLK := Lib.hid (dg16_len 4 k (by omega))
      have l1 : (i : Int) < (ALL.size : Int) := by omega
      have l2 : (0 : Int) ≤ (i : Int) := by omega
      have l3 : IntKind.u8.wrap ((x.toNat : Int) - 48) = (k : Int) := by rw [hk]; simp [IntKind.wrap, IntKind.bits, IntKind.signed]; omega
      have l4 : IntKind.u64.wrap (k : Int) = (k : Int) := by simp [IntKind.wrap, IntKind.bits, IntKind.signed]; omega
      clear hcd hcc hk
      go_wp2_with fail
      go_region_with (first | (go_at_call 88; refine (HOS.out _ _ (by assumption) _).mono ?_; rintro e w1 ⟨⟨B, cb, rfl, _, hrB⟩, hbB⟩; first | (have HRB : Hid (RowOf uc 1 _ _ _ (dg16 10)) := Lib.hid hrB; have HBB := Lib.hid hbB; clear hrB hbB) | (have HRD := Lib.hid hrB; have HBD := Lib.hid hbB; clear hrB hbB)) | (go_at_call 87; refine (times_big X 10 _ _ _ _ _ (by have := HLi.out; omega) (by have := HL10.out; omega) (by first | exact row_on HBB.out HR.out | exact row_on HBD.out (row_on HBB.out HR.out) | exact row_on HBB.out (row_on HBD.out HR.out)) (by first | exact HRB.out | exact row_on HBD.out HRB.out)).mono ?_; rintro e w3 ⟨⟨E, ce, rfl, _, hrE⟩, hbE⟩; have HRE := Lib.hid hrE; have HBE := Lib.hid hbE; clear hrE hbE) | (go_at_call 86; refine (sum_any (X * 10) k _ _ _ _ _ (by have h1 := HLi.out; have h2 := HL10.out; have h3 := HL2.out; omega) (by have := HLK.out; omega) (by first | exact HRE.out | exact row_on HBD.out HRE.out) (by first | exact HRD.out | exact row_on HBE.out HRD.out | exact row_on HBE.out (row_on HBB.out HRD.out))).mono ?_; rintro e w4 ⟨⟨F, cf, rfl, hcf, hrF⟩, hbF⟩; have HRF := Lib.hid hrF; have HBF := Lib.hid hbF; clear hrF hbF))
      all_goals
       have HZ : Hid (Below w.heap.size w w4) := Lib.hid (by first | exact below_then (below_then (below_then (below_then HB.out (drew_one HBB.out)) HBE.out) HBD.out) HBF.out | exact below_then (below_then (below_then (below_then HB.out (drew_one HBB.out)) HBD.out) HBE.out) HBF.out | exact below_then (below_then (below_then (below_then HB.out (drew_one HBD.out)) HBB.out) HBE.out) HBF.out)
       clear HBB HBE HBD HBF HRB HRD HRE
       go_wp2_with fail
       refine ⟨⟨i + 1, cf, F, by rw [HN.out], by go_num, by omega, by rw [HN.out]; exact HRF.out, HZ.out⟩, by simp [intOf]; omega⟩
    · obtain rfl : i = ALL.size := by omega
      obtain rfl : X = V := by rw [← HX.out, ← HV.out, List.take_of_length_le (Nat.le_of_eq hsz)]
      clear hlt
      by_cases hv0 : X = 0
      · subst hv0
        have e0 : (dg16 0).length = 0 := by rw [dg16_zero]; rfl
        have HR0 := Lib.hid (show RES = .tuple #[.int .u64 0, .int .i64 0] by rw [← HRES.out, rd10_zero, if_neg (by decide)]; rfl)
        rw [e0]
        clear e0
        go_wp2_with fail
        go_ret2
        rw [HR0.out]
        exact ⟨rfl, HB.out⟩
      · have g1 := dg16_ne hv0
        have g2 : (((dg16 X).length : Int) == 0) = false := by simpa using g1
        have HV0 := Lib.hid hv0
        clear hv0
        go_wp2_with fail
        refine (HO1.out _).mono ?_
        rintro e w1 ⟨⟨B, cb, rfl, _, hrB⟩, hbB⟩
        have HRB := Lib.hid hrB
        have HBB := Lib.hid (below_then HB.out hbB)
        have HR1 := Lib.hid (row_on hbB HR.out)
        clear hrB hbB
        have HX10 := Lib.hid (dg16_len 4 1 (by decide))
        obtain ⟨G, hG⟩ : ∃ G, rd10 X (xe - (b : Int)) K = G := ⟨_, rfl⟩
        rw [hG] at HRES
        by_cases hxb : (b : Int) ≤ xe
        · obtain ⟨d, hd⟩ : ∃ d : Nat, xe - (b : Int) = (d : Int) := ⟨(xe - (b : Int)).toNat, by omega⟩
          have HTL := Lib.hid (ten_len d (by have := HB0.out; omega))
          have HP := Lib.hid (power_any d w1 (by have := HB0.out; omega))
          go_wp2_with fail
          refine HP.out.mono ?_
          rintro e w2 ⟨⟨C, cc, rfl, _, hrC⟩, hbC⟩
          have HRC := Lib.hid hrC
          have HBC := Lib.hid hbC
          clear hrC hbC
          have HT := Lib.hid (times_big X (10 ^ d) A C c cc w2 (by have := HLi.out; omega) (by have := HTL.out; omega) (row_on HBC.out HR1.out) HRC.out)
          go_wp2_with fail
          refine HT.out.mono ?_
          rintro e w3 ⟨⟨E, ce, rfl, _, hrE⟩, hbE⟩
          have HRO := round_any false (X * 10 ^ d) 1 E B ce cb w3 (Nat.mul_ne_zero HV0.out (Nat.ne_of_gt (Nat.pow_pos (by decide)))) (by decide) (by have h1 := len_mul X (10 ^ d); have h2 := HTL.out; have h3 := HLi.out; omega) (by have := HX10.out; omega) hrE (row_on hbE (row_on HBC.out HRB.out))
          rw [round_lit X d (xe - (b : Int)) K HK.out hd, hG] at HRO
          replace HRO := Lib.hid HRO
          have HBE := Lib.hid (below_then (below_then HBB.out HBC.out) hbE)
          clear hrE hbE
          have HG := Lib.hid hG
          clear hG
          by_cases ht : G = 9218868437227405312
          · have HR0 := Lib.hid (show RES = .tuple #[.int .u64 0, .int .i64 3] by rw [← HRES.out, if_pos ht])
            have t1 : (G : Int) = 9218868437227405312 := by omega
            have t2 : ((G : Int) == 9218868437227405312) = true := by simpa using t1
            clear ht
            go_wp2_with fail
            refine HRO.out.mono ?_
            rintro e w4 ⟨rfl, hb4⟩
            have HB4 := Lib.hid (below_then HBE.out hb4)
            clear hb4
            go_wp2_with fail
            go_ret2
            rw [HR0.out]
            exact ⟨rfl, HB4.out⟩
          · have HR0 := Lib.hid (show RES = .tuple #[.int .u64 (G : Nat), .int .i64 0] by rw [← HRES.out, if_neg ht])
            have t1 : ¬ (G : Int) = 9218868437227405312 := by omega
            have t2 : ((G : Int) == 9218868437227405312) = false := by simpa using t1
            clear ht
            go_wp2_with fail
            refine HRO.out.mono ?_
            rintro e w4 ⟨rfl, hb4⟩
            have HB4 := Lib.hid (below_then HBE.out hb4)
            clear hb4
            go_wp2_with fail
            go_ret2
            rw [HR0.out]
            exact ⟨rfl, HB4.out⟩
        · obtain ⟨d, hd⟩ : ∃ d : Nat, (b : Int) - xe = (d : Int) := ⟨((b : Int) - xe).toNat, by omega⟩
          have HTL := Lib.hid (ten_len d (by have := HB0.out; omega))
          have HP := Lib.hid (power_any d w1 (by have := HB0.out; omega))
          go_wp2_with fail
          refine HP.out.mono ?_
          rintro e w2 ⟨⟨C, cc, rfl, _, hrC⟩, hbC⟩
          have HRC := Lib.hid hrC
          have HBC := Lib.hid hbC
          clear hrC hbC
          have HRO := round_any false X (10 ^ d) A C c cc w2 HV0.out (Nat.ne_of_gt (Nat.pow_pos (by decide))) (by have h3 := HLi.out; omega) (by have h2 := HTL.out; omega) (row_on HBC.out HR1.out) HRC.out
          rw [round_lit2 X d _ K HK.out (show xe - (b : Int) = -(d : Int) by omega), hG] at HRO
          replace HRO := Lib.hid HRO
          have HBE := Lib.hid (below_then HBB.out HBC.out)
          have HG := Lib.hid hG
          clear hG
          by_cases ht : G = 9218868437227405312
          · have HR0 := Lib.hid (show RES = .tuple #[.int .u64 0, .int .i64 3] by rw [← HRES.out, if_pos ht])
            have t1 : (G : Int) = 9218868437227405312 := by omega
            have t2 : ((G : Int) == 9218868437227405312) = true := by simpa using t1
            clear ht
            go_wp2_with fail
            refine HRO.out.mono ?_
            rintro e w4 ⟨rfl, hb4⟩
            have HB4 := Lib.hid (below_then HBE.out hb4)
            clear hb4
            go_wp2_with fail
            go_ret2
            rw [HR0.out]
            exact ⟨rfl, HB4.out⟩
          · have HR0 := Lib.hid (show RES = .tuple #[.int .u64 (G : Nat), .int .i64 0] by rw [← HRES.out, if_neg ht])
            have t1 : ¬ (G : Int) = 9218868437227405312 := by omega
            have t2 : ((G : Int) == 9218868437227405312) = false := by simpa using t1
            clear ht
            go_wp2_with fail
            refine HRO.out.mono ?_
            rintro e w4 ⟨rfl, hb4⟩
            have HB4 := Lib.hid (below_then HBE.out hb4)
            clear hb4
            go_wp2_with fail
            go_ret2
            rw [HR0.out]
            exact ⟨rfl, HB4.out⟩
 · have m3 : ((c0.toNat : Int) == 48) = false := by simpa using m2
   go_enter Tryz.func62, Tryz.ntmps62
   go_wp2_with fail
   refine HRUN0.out.mono ?_
   rintro e wx ⟨rfl, rfl⟩
   go_wp2_with fail
   refine HRUN1.out.mono ?_
   rintro e wx ⟨rfl, rfl⟩
   go_wp2_with fail
   refine (HE.out _).mono ?_
   rintro e wx ⟨rfl, rfl⟩
   go_wp2_with fail
   go_quiet (fail)
   go_wp2_with fail
   go_loopw [11, 12] (fun pv iv wr => ∃ (i c : Nat) (A : Option Addr), pv = .slice A (dg16 (valD 0 (ALL.data.toList.take i))).length c ∧ iv = .int .i64 i ∧ i ≤ ALL.size ∧ RowOf uc 1 wr wr.heap.size A (dg16 (valD 0 (ALL.data.toList.take i))) ∧ Below w.heap.size w wr) (fun _ iv _ => ALL.size - (intOf iv).toNat)
   case atStart =>
    have e0 : dg16 (valD 0 (ALL.data.toList.take 0)) = [] := dg16_zero
    exact ⟨0, 0, none, by rw [e0]; rfl, rfl, Nat.zero_le _, by rw [e0]; exact RowOf.nil_, below_draws (Below.refl _ _) _⟩
   case round =>
    obtain ⟨i, c, A, rfl, rfl, hi, hr, hb⟩ := hrel
    have HB := Lib.hid hb
    have HLi := Lib.hid (HLEN.out i)
    obtain ⟨X, hX⟩ : ∃ X, valD 0 (ALL.data.toList.take i) = X := ⟨_, rfl⟩
    rw [hX] at hr HLi ⊢
    have HX := Lib.hid hX
    have HR := Lib.hid hr
    clear hb hX hr
    by_cases hlt : i < ALL.size
    · obtain ⟨x, hx⟩ : ∃ x, ALL[i] = x := ⟨_, rfl⟩
      have HXX := Lib.hid ((HGET.out i hlt).trans (congrArg some hx))
      have hcd := HDIG.out x (List.mem_of_getElem? HXX.out)
      have hcc : 48 ≤ x.toNat ∧ x.toNat ≤ 57 := by simpa [isDig] using hcd
      obtain ⟨k, hk⟩ : ∃ k, x.toNat = 48 + k := ⟨x.toNat - 48, by omega⟩
      have hk9 : k ≤ 9 := by omega
      have HN := Lib.hid (show valD 0 (ALL.data.toList.take (i + 1)) = X * 10 + k by rw [valD_take _ _ HXX.out, HX.out, hk]; omega)
      have hKK : SMx (k : Int) k := ⟨rfl, by omega⟩
      have HL2 := Lib.hid (len_mul X 10)
      have HL10 := Lib.hid (dg16_len 4 10 (by decide))
      have HLK := Lib.hid (dg16_len 4 k (by omega))
      have l1 : (i : Int) < (ALL.size : Int) := by omega
      have l2 : (0 : Int) ≤ (i : Int) := by omega
      have l3 : IntKind.u8.wrap ((x.toNat : Int) - 48) = (k : Int) := by rw [hk]; simp [IntKind.wrap, IntKind.bits, IntKind.signed]; omega
      have l4 : IntKind.u64.wrap (k : Int) = (k : Int) := by simp [IntKind.wrap, IntKind.bits, IntKind.signed]; omega
      clear hcd hcc hk
      go_wp2_with fail
      go_region_with (first | (go_at_call 88; refine (HOS.out _ _ (by assumption) _).mono ?_; rintro e w1 ⟨⟨B, cb, rfl, _, hrB⟩, hbB⟩; first | (have HRB : Hid (RowOf uc 1 _ _ _ (dg16 10)) := Lib.hid hrB; have HBB := Lib.hid hbB; clear hrB hbB) | (have HRD := Lib.hid hrB; have HBD := Lib.hid hbB; clear hrB hbB)) | (go_at_call 87; refine (times_big X 10 _ _ _ _ _ (by have := HLi.out; omega) (by have := HL10.out; omega) (by first | exact row_on HBB.out HR.out | exact row_on HBD.out (row_on HBB.out HR.out) | exact row_on HBB.out (row_on HBD.out HR.out)) (by first | exact HRB.out | exact row_on HBD.out HRB.out)).mono ?_; rintro e w3 ⟨⟨E, ce, rfl, _, hrE⟩, hbE⟩; have HRE := Lib.hid hrE; have HBE := Lib.hid hbE; clear hrE hbE) | (go_at_call 86; refine (sum_any (X * 10) k _ _ _ _ _ (by have h1 := HLi.out; have h2 := HL10.out; have h3 := HL2.out; omega) (by have := HLK.out; omega) (by first | exact HRE.out | exact row_on HBD.out HRE.out) (by first | exact HRD.out | exact row_on HBE.out HRD.out | exact row_on HBE.out (row_on HBB.out HRD.out))).mono ?_; rintro e w4 ⟨⟨F, cf, rfl, hcf, hrF⟩, hbF⟩; have HRF := Lib.hid hrF; have HBF := Lib.hid hbF; clear hrF hbF))
      all_goals
       have HZ : Hid (Below w.heap.size w w4) := Lib.hid (by first | exact below_then (below_then (below_then (below_then HB.out (drew_one HBB.out)) HBE.out) HBD.out) HBF.out | exact below_then (below_then (below_then (below_then HB.out (drew_one HBB.out)) HBD.out) HBE.out) HBF.out | exact below_then (below_then (below_then (below_then HB.out (drew_one HBD.out)) HBB.out) HBE.out) HBF.out)
       clear HBB HBE HBD HBF HRB HRD HRE
       go_wp2_with fail
       refine ⟨⟨i + 1, cf, F, by rw [HN.out], by go_num, by omega, by rw [HN.out]; exact HRF.out, HZ.out⟩, by simp [intOf]; omega⟩
    · obtain rfl : i = ALL.size := by omega
      obtain rfl : X = V := by rw [← HX.out, ← HV.out, List.take_of_length_le (Nat.le_of_eq hsz)]
      clear hlt
      by_cases hv0 : X = 0
      · subst hv0
        have e0 : (dg16 0).length = 0 := by rw [dg16_zero]; rfl
        have HR0 := Lib.hid (show RES = .tuple #[.int .u64 0, .int .i64 0] by rw [← HRES.out, rd10_zero, if_neg (by decide)]; rfl)
        rw [e0]
        clear e0
        go_wp2_with fail
        go_ret2
        rw [HR0.out]
        exact ⟨rfl, HB.out⟩
      · have g1 := dg16_ne hv0
        have g2 : (((dg16 X).length : Int) == 0) = false := by simpa using g1
        have HV0 := Lib.hid hv0
        clear hv0
        go_wp2_with fail
        refine (HO1.out _).mono ?_
        rintro e w1 ⟨⟨B, cb, rfl, _, hrB⟩, hbB⟩
        have HRB := Lib.hid hrB
        have HBB := Lib.hid (below_then HB.out hbB)
        have HR1 := Lib.hid (row_on hbB HR.out)
        clear hrB hbB
        have HX10 := Lib.hid (dg16_len 4 1 (by decide))
        obtain ⟨G, hG⟩ : ∃ G, rd10 X (xe - (b : Int)) K = G := ⟨_, rfl⟩
        rw [hG] at HRES
        by_cases hxb : (b : Int) ≤ xe
        · obtain ⟨d, hd⟩ : ∃ d : Nat, xe - (b : Int) = (d : Int) := ⟨(xe - (b : Int)).toNat, by omega⟩
          have HTL := Lib.hid (ten_len d (by have := HB0.out; omega))
          have HP := Lib.hid (power_any d w1 (by have := HB0.out; omega))
          go_wp2_with fail
          refine HP.out.mono ?_
          rintro e w2 ⟨⟨C, cc, rfl, _, hrC⟩, hbC⟩
          have HRC := Lib.hid hrC
          have HBC := Lib.hid hbC
          clear hrC hbC
          have HT := Lib.hid (times_big X (10 ^ d) A C c cc w2 (by have := HLi.out; omega) (by have := HTL.out; omega) (row_on HBC.out HR1.out) HRC.out)
          go_wp2_with fail
          refine HT.out.mono ?_
          rintro e w3 ⟨⟨E, ce, rfl, _, hrE⟩, hbE⟩
          have HRO := round_any false (X * 10 ^ d) 1 E B ce cb w3 (Nat.mul_ne_zero HV0.out (Nat.ne_of_gt (Nat.pow_pos (by decide)))) (by decide) (by have h1 := len_mul X (10 ^ d); have h2 := HTL.out; have h3 := HLi.out; omega) (by have := HX10.out; omega) hrE (row_on hbE (row_on HBC.out HRB.out))
          rw [round_lit X d (xe - (b : Int)) K HK.out hd, hG] at HRO
          replace HRO := Lib.hid HRO
          have HBE := Lib.hid (below_then (below_then HBB.out HBC.out) hbE)
          clear hrE hbE
          have HG := Lib.hid hG
          clear hG
          by_cases ht : G = 9218868437227405312
          · have HR0 := Lib.hid (show RES = .tuple #[.int .u64 0, .int .i64 3] by rw [← HRES.out, if_pos ht])
            have t1 : (G : Int) = 9218868437227405312 := by omega
            have t2 : ((G : Int) == 9218868437227405312) = true := by simpa using t1
            clear ht
            go_wp2_with fail
            refine HRO.out.mono ?_
            rintro e w4 ⟨rfl, hb4⟩
            have HB4 := Lib.hid (below_then HBE.out hb4)
            clear hb4
            go_wp2_with fail
            go_ret2
            rw [HR0.out]
            exact ⟨rfl, HB4.out⟩
          · have HR0 := Lib.hid (show RES = .tuple #[.int .u64 (G : Nat), .int .i64 0] by rw [← HRES.out, if_neg ht])
            have t1 : ¬ (G : Int) = 9218868437227405312 := by omega
            have t2 : ((G : Int) == 9218868437227405312) = false := by simpa using t1
            clear ht
            go_wp2_with fail
            refine HRO.out.mono ?_
            rintro e w4 ⟨rfl, hb4⟩
            have HB4 := Lib.hid (below_then HBE.out hb4)
            clear hb4
            go_wp2_with fail
            go_ret2
            rw [HR0.out]
            exact ⟨rfl, HB4.out⟩
        · obtain ⟨d, hd⟩ : ∃ d : Nat, (b : Int) - xe = (d : Int) := ⟨((b : Int) - xe).toNat, by omega⟩
          have HTL := Lib.hid (ten_len d (by have := HB0.out; omega))
          have HP := Lib.hid (power_any d w1 (by have := HB0.out; omega))
          go_wp2_with fail
          refine HP.out.mono ?_
          rintro e w2 ⟨⟨C, cc, rfl, _, hrC⟩, hbC⟩
          have HRC := Lib.hid hrC
          have HBC := Lib.hid hbC
          clear hrC hbC
          have HRO := round_any false X (10 ^ d) A C c cc w2 HV0.out (Nat.ne_of_gt (Nat.pow_pos (by decide))) (by have h3 := HLi.out; omega) (by have h2 := HTL.out; omega) (row_on HBC.out HR1.out) HRC.out
          rw [round_lit2 X d _ K HK.out (show xe - (b : Int) = -(d : Int) by omega), hG] at HRO
          replace HRO := Lib.hid HRO
          have HBE := Lib.hid (below_then HBB.out HBC.out)
          have HG := Lib.hid hG
          clear hG
          by_cases ht : G = 9218868437227405312
          · have HR0 := Lib.hid (show RES = .tuple #[.int .u64 0, .int .i64 3] by rw [← HRES.out, if_pos ht])
            have t1 : (G : Int) = 9218868437227405312 := by omega
            have t2 : ((G : Int) == 9218868437227405312) = true := by simpa using t1
            clear ht
            go_wp2_with fail
            refine HRO.out.mono ?_
            rintro e w4 ⟨rfl, hb4⟩
            have HB4 := Lib.hid (below_then HBE.out hb4)
            clear hb4
            go_wp2_with fail
            go_ret2
            rw [HR0.out]
            exact ⟨rfl, HB4.out⟩
          · have HR0 := Lib.hid (show RES = .tuple #[.int .u64 (G : Nat), .int .i64 0] by rw [← HRES.out, if_neg ht])
            have t1 : ¬ (G : Int) = 9218868437227405312 := by omega
            have t2 : ((G : Int) == 9218868437227405312) = false := by simpa using t1
            clear ht
            go_wp2_with fail
            refine HRO.out.mono ?_
            rintro e w4 ⟨rfl, hb4⟩
            have HB4 := Lib.hid (below_then HBE.out hb4)
            clear hb4
            go_wp2_with fail
            go_ret2
            rw [HR0.out]
            exact ⟨rfl, HB4.out⟩
end Go.Proofs.YtclbmmiedihepaaGreatDoor
