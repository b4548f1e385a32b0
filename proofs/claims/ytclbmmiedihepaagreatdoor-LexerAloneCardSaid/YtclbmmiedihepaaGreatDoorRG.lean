/- The document's hex. The document's number. The document's quoted. -/
import Derived.Test.YtclbmmiedihepaaGreatDoorRC
namespace Go.Proofs.YtclbmmiedihepaaGreatDoor
section
open Go.RowKit
set_option linter.unusedVariables false
set_option linter.unusedSimpArgs false
/-- What the document's hex answers at a place. -/
def rhxI (L : BL) (i : Nat) : Int := match L[i]? with
 | some c => (match hexV c with | some v => (v : Int) | none => -1)
 | none => -1
theorem rhxI_in {s : ByteArray} {i : Nat} {c : UInt8} (h : i < s.size) (hc : s[i] = c) : rhxI s.data.toList i = (match hexV c with | some v => (v : Int) | none => -1) := by
 unfold rhxI
 have : s.data.toList[i]? = some c := by
  rw [← hc]
  simp only [Array.getElem?_toList]
  exact Array.getElem?_eq_getElem (by simpa using h)
 rw [this]
theorem rhxI_out {s : ByteArray} {i : Nat} (h : s.size ≤ i) : rhxI s.data.toList i = -1 := by
 unfold rhxI
 rw [List.getElem?_eq_none (by show s.data.toList.length ≤ i; exact h)]
set_option maxRecDepth 100000 in
set_option maxHeartbeats 1600000 in
theorem rhex (s : ByteArray) (i : Nat) (w : World) (hs : s.size ≤ 1000000) (hi : i ≤ 1000000) :
  Calls Tryz.prog 69 #[.string s, .int .i64 (i : Int)] w fun e w' => e = .returned (.int .i64 (rhxI s.data.toList i)) ∧ w' = w := by
 have hd := fun w => rdigit s i w (by omega) (by omega)
 by_cases hlt : i < s.size
 · obtain ⟨c, hc⟩ : ∃ c, s[i] = c := ⟨_, rfl⟩
   have hx := rhxI_in hlt hc
   have ha : atB isDig s.data.toList i = isDig c := by rw [atB_in hlt, hc]
   rw [ha] at hd
   have hlt2 : (i : Int) < (s.size : Int) := by omega
   have hcb := c.toNat_lt
   rw [hx]
   cases hg : isDig c with
   | true =>
    rw [hg] at hd
    have HD := Lib.hid hd
    have hr : 48 ≤ c.toNat ∧ c.toNat ≤ 57 := by simpa [isDig] using hg
    have hv : hexV c = some (c.toNat - 48) := by unfold hexV; rw [if_pos hg]
    rw [hv]
    have e1 : (48 : Int) ≤ (c.toNat : Int) := by omega
    have e2 : (c.toNat : Int) - 48 = ((c.toNat - 48 : Nat) : Int) := by omega
    clear hd hx ha hg
    go_enter Tryz.func69, Tryz.ntmps69
    go_wp2_with (first | (go_at_call 44; refine (HD.out _).mono ?_; rintro e w2 ⟨rfl, rfl⟩))
    go_ret
    exact ⟨rfl, rfl⟩
   | false =>
    rw [hg] at hd
    have HD := Lib.hid hd
    by_cases a1 : 97 ≤ c.toNat
    · have b1 : (97 : Int) ≤ (c.toNat : Int) := by omega
      by_cases a2 : c.toNat ≤ 102
      · have b2 : (c.toNat : Int) ≤ 102 := by omega
        have hv : hexV c = some (c.toNat - 87) := by unfold hexV; rw [if_neg (by rw [hg]; exact Bool.false_ne_true), if_pos ⟨a1, a2⟩]
        rw [hv]
        clear hd hx ha hg
        go_enter Tryz.func69, Tryz.ntmps69
        go_wp2_with (first | (go_at_call 44; refine (HD.out _).mono ?_; rintro e w2 ⟨rfl, rfl⟩))
        go_ret
        exact ⟨by rw [show (c.toNat : Int) - 97 + 10 = ((c.toNat - 87 : Nat) : Int) by omega]; rfl, rfl⟩
      · have b2 : ¬ (c.toNat : Int) ≤ 102 := by omega
        have hv : hexV c = none := by unfold hexV; rw [if_neg (by rw [hg]; exact Bool.false_ne_true), if_neg (by omega)]
        rw [hv]
        clear hd hx ha hg
        go_enter Tryz.func69, Tryz.ntmps69
        go_wp2_with (first | (go_at_call 44; refine (HD.out _).mono ?_; rintro e w2 ⟨rfl, rfl⟩))
        go_ret
        exact ⟨rfl, rfl⟩
    · have b1 : ¬ (97 : Int) ≤ (c.toNat : Int) := by omega
      have hv : hexV c = none := by unfold hexV; rw [if_neg (by rw [hg]; exact Bool.false_ne_true), if_neg (by omega)]
      rw [hv]
      clear hd hx ha hg
      go_enter Tryz.func69, Tryz.ntmps69
      go_wp2_with (first | (go_at_call 44; refine (HD.out _).mono ?_; rintro e w2 ⟨rfl, rfl⟩))
      go_ret
      exact ⟨rfl, rfl⟩
 · have hlt2 : ¬ (i : Int) < (s.size : Int) := by omega
   rw [rhxI_out (by omega)]
   rw [atB_out (by show s.size ≤ i; omega)] at hd
   have HD := Lib.hid hd
   clear hd
   go_enter Tryz.func69, Tryz.ntmps69
   go_wp2_with (first | (go_at_call 44; refine (HD.out _).mono ?_; rintro e w2 ⟨rfl, rfl⟩))
   go_ret
   exact ⟨rfl, rfl⟩
end

section
open Go.RowKit
set_option linter.unusedVariables false
set_option linter.unusedSimpArgs false
theorem dig_in {L : BL} {k : Nat} (h : atB isDig L k = true) : k < L.length ∧ digN (L.drop k) = digN (L.drop (k + 1)) + 1 := by
 unfold atB at h
 split at h
 · rename_i c hc
   have hlt := (List.getElem?_eq_some_iff.1 hc).1
   refine ⟨hlt, ?_⟩
   rw [List.drop_eq_getElem_cons hlt, (List.getElem?_eq_some_iff.1 hc).2]
   unfold digN
   rw [List.takeWhile_cons, if_pos h, List.length_cons]
 · cases h
theorem dig_out {L : BL} {k : Nat} (h : atB isDig L k = false) : digN (L.drop k) = 0 := by
 unfold atB at h
 split at h
 · rename_i c hc
   have hlt := (List.getElem?_eq_some_iff.1 hc).1
   rw [List.drop_eq_getElem_cons hlt, (List.getElem?_eq_some_iff.1 hc).2]
   unfold digN
   rw [List.takeWhile_cons, h]; rfl
 · rename_i hc
   rw [List.drop_of_length_le (List.getElem?_eq_none_iff.1 hc)]; rfl
theorem is_some {L : BL} {k : Nat} {x : UInt8} : atB (· == x) L k = true ↔ L[k]? = some x := by
 unfold atB
 cases L[k]? <;> simp
theorem sg_at (L : BL) (k : Nat) : sgN (L.drop k) = if atB (· == 43) L k = true ∨ atB (· == 45) L k = true then 1 else 0 := by
 simp only [is_some]
 cases hd : L.drop k with
 | nil =>
  have : L[k]? = none := by rw [List.getElem?_eq_none_iff]; exact List.drop_eq_nil_iff.1 hd
  rw [this]; simp [sgN]
 | cons c r =>
  have hc : L[k]? = some c := by have := congrArg (fun l => l[0]?) hd; simpa using this
  rw [hc]
  unfold sgN
  simp only [Option.some.injEq]
  by_cases h : c.toNat = 43 ∨ c.toNat = 45
  · rw [if_pos h, if_pos]
    rcases h with h | h
    · exact .inl (UInt8.toNat_inj.1 h)
    · exact .inr (UInt8.toNat_inj.1 h)
  · rw [if_neg h, if_neg]
    rintro (rfl | rfl)
    · exact h (.inl rfl)
    · exact h (.inr rfl)
theorem exp_at (L : BL) (b : Nat) : expN (L.drop b) = if atB (· == 101) L b = true ∧ atB isDig L (b + 1 + sgN (L.drop (b + 1))) = true then 1 + sgN (L.drop (b + 1)) + digN (L.drop (b + 1 + sgN (L.drop (b + 1)))) else 0 := by
 simp only [is_some]
 cases hd : L.drop b with
 | nil =>
  have : L[b]? = none := by rw [List.getElem?_eq_none_iff]; exact List.drop_eq_nil_iff.1 hd
  rw [this]; simp [expN]
 | cons c p =>
  have hc : L[b]? = some c := by have := congrArg (fun l => l[0]?) hd; simpa using this
  have hp : L.drop (b + 1) = p := by rw [← List.drop_drop, hd]; rfl
  have e : expN (c :: p) = if c.toNat = 101 then (if digN (p.drop (sgN p)) = 0 then 0 else 1 + sgN p + digN (p.drop (sgN p))) else 0 := rfl
  rw [e, hc, hp, ← hp, List.drop_drop, hp]
  by_cases h : c.toNat = 101
  · have : c = 101 := UInt8.toNat_inj.1 h
    subst this
    rw [if_pos h]
    cases ha : atB isDig L (b + 1 + sgN p) with
    | true => rw [if_neg (by have := (dig_in ha).2; omega), if_pos ⟨rfl, rfl⟩]
    | false => rw [if_pos (dig_out ha), if_neg (by simp)]
  · rw [if_neg h, if_neg]
    rintro ⟨e2, _⟩
    cases e2
    exact h rfl
theorem num_at (L : BL) (i : Nat) (h : 0 < digN (L.drop i)) : numN (L.drop i) = if atB (· == 46) L (i + digN (L.drop i)) = true ∧ atB isDig L (i + digN (L.drop i) + 1) = true then
  (4, digN (L.drop i) + 1 + digN (L.drop (i + digN (L.drop i) + 1)) + expN (L.drop (i + digN (L.drop i) + 1 + digN (L.drop (i + digN (L.drop i) + 1))))) else (3, digN (L.drop i)) := by
 obtain ⟨n, hn⟩ : ∃ n, digN (L.drop i) = n := ⟨_, rfl⟩
 rw [hn] at h
 simp only [hn, is_some]
 unfold numN
 rw [hn, List.drop_drop, List.getElem?_drop, ← Nat.add_assoc]
 cases ha : atB isDig L (i + n + 1) with
 | true =>
  have h2 := (dig_in ha).2
  by_cases hc : L[i + n]? = some 46
  · rw [if_neg (fun h3 => by rcases h3 with h3 | h3 | h3 <;> first | omega | exact h3 hc), if_pos ⟨hc, rfl⟩, List.drop_drop]
    simp only [Nat.add_assoc]
  · rw [if_pos (.inr (.inl hc)), if_neg (fun e => hc e.1)]
 | false =>
  rw [if_pos (.inr (.inr (dig_out ha))), if_neg (fun e => by simp at e)]
def numOut (L : BL) (i : Nat) : Value := .tuple #[.int .i64 (numN (L.drop i)).1, .int .i64 ((i + (numN (L.drop i)).2 : Nat) : Int)]
theorem atB_lt {p : UInt8 → Bool} {L : BL} {k : Nat} (h : atB p L k = true) : k < L.length := by
 unfold atB at h
 split at h
 · rename_i c hc; exact (List.getElem?_eq_some_iff.1 hc).1
 · cases h
set_option maxRecDepth 100000 in
set_option maxHeartbeats 6400000 in
theorem rnumber (s : ByteArray) (i : Nat) (w : World) (hs : s.size ≤ 999990) (hi : i ≤ s.size) (h0 : 0 < digN (s.data.toList.drop i)) :
  Calls Tryz.prog 60 #[.string s, .int .i64 (i : Int)] w fun e w' => e = .returned (numOut s.data.toList i) ∧ w' = w := by
 have hsz : s.data.toList.length = s.size := rfl
 have hnum := num_at s.data.toList i h0
 obtain ⟨a, ha⟩ : ∃ a, i + digN (s.data.toList.drop i) = a := ⟨_, rfl⟩
 have hal : a ≤ s.size := by have := digN_drop_le s.data.toList i; omega
 obtain ⟨b, hb⟩ : ∃ b, a + 1 + digN (s.data.toList.drop (a + 1)) = b := ⟨_, rfl⟩
 have hbl : b ≤ s.size + 1 := by have := digN_drop_le s.data.toList (a + 1); omega
 rw [ha, hb] at hnum
 have HD := Lib.hid (fun k (hk : k ≤ 1000000) w => rdigit s k w (by omega) (by omega))
 have HI := Lib.hid (fun k x (hk : k ≤ 1000000) w => ris s k x w (by omega) (by omega))
 have HSZ := Lib.hid hsz
 have HN := Lib.hid hnum
 have HA := Lib.hid ha
 have HB := Lib.hid hb
 clear hsz hnum ha hb
 go_enter Tryz.func60, Tryz.ntmps60
 go_wp2_with fail
 go_loopw [1] (fun iv wx => ∃ k : Nat, k ≤ a ∧ iv = .int .i64 k ∧ k + digN (s.data.toList.drop k) = a ∧ wx = w) (fun iv _ => a - (intOf iv).toNat)
 case atStart => exact ⟨i, by have := HA.out; omega, by go_num, HA.out, rfl⟩
 case round =>
  obtain ⟨k, hk, rfl, hka, rfl⟩ := hrel
  cases hat : atB isDig s.data.toList k with
  | true =>
   have h1 := (dig_in hat).2
   have h2 := (dig_in hat).1
   have HC := Lib.hid (HD.out k (by omega))
   rw [hat] at HC
   have HK := Lib.hid (show k + 1 + digN (s.data.toList.drop (k + 1)) = a by omega)
   have hk1 : k + 1 ≤ a := by omega
   clear hat hka h1 h2
   go_wp2_with fail
   refine (HC.out _).mono ?_
   rintro e w2 ⟨rfl, rfl⟩
   go_wp2_with fail
   go_roundw
   case rel => exact ⟨k + 1, hk1, by go_num, HK.out, trivial⟩
   case measure => simp only [intOf]; omega
  | false =>
   have h1 := dig_out hat
   obtain rfl : k = a := by omega
   have HCk := Lib.hid (HD.out k (by omega))
   rw [hat] at HCk
   clear hat hka h1 hk
   have HP := Lib.hid (HI.out k 46 (by omega))
   have HC2 := Lib.hid (HD.out (k + 1) (by omega))
   cases h46 : atB (· == 46) s.data.toList k with
   | false =>
    rw [h46] at HP
    have HV := Lib.hid (show numN (s.data.toList.drop i) = (3, digN (s.data.toList.drop i)) by rw [HN.out, h46, if_neg (by simp)])
    clear h46
    go_wp2_with fail
    refine (HCk.out _).mono ?_
    rintro e w2 ⟨rfl, rfl⟩
    go_wp2_with fail
    refine (HP.out _).mono ?_
    rintro e w2 ⟨rfl, rfl⟩
    go_wp2_with fail
    go_ret2
    exact ⟨by unfold numOut; rw [HV.out]; exact ret_pair rfl (by have := HA.out; simp only; omega), rfl⟩
   | true =>
    rw [h46] at HP
    cases hd1 : atB isDig s.data.toList (k + 1) with
    | false =>
     rw [hd1] at HC2
     have HV := Lib.hid (show numN (s.data.toList.drop i) = (3, digN (s.data.toList.drop i)) by rw [HN.out, hd1, if_neg (by simp)])
     clear h46 hd1
     go_wp2_with fail
     refine (HCk.out _).mono ?_
     rintro e w2 ⟨rfl, rfl⟩
     go_wp2_with fail
     refine (HP.out _).mono ?_
     rintro e w2 ⟨rfl, rfl⟩
     go_wp2_with fail
     refine (HC2.out _).mono ?_
     rintro e w2 ⟨rfl, rfl⟩
     go_wp2_with fail
     go_ret2
     exact ⟨by unfold numOut; rw [HV.out]; exact ret_pair rfl (by have := HA.out; simp only; omega), rfl⟩
    | true =>
     rw [hd1] at HC2
     have HV0 := Lib.hid (show numN (s.data.toList.drop i) = (4, digN (s.data.toList.drop i) + 1 + digN (s.data.toList.drop (k + 1)) + expN (s.data.toList.drop b)) by rw [HN.out, h46, hd1, if_pos ⟨rfl, rfl⟩])
     clear h46 hd1
     go_wp2_with fail
     refine (HCk.out _).mono ?_
     rintro e w2 ⟨rfl, rfl⟩
     go_wp2_with fail
     refine (HP.out _).mono ?_
     rintro e w2 ⟨rfl, rfl⟩
     go_wp2_with fail
     refine (HC2.out _).mono ?_
     rintro e w2 ⟨rfl, rfl⟩
     go_wp2_with fail
     go_loopw [1] (fun iv wx => ∃ k : Nat, k ≤ b ∧ iv = .int .i64 k ∧ k + digN (s.data.toList.drop k) = b ∧ wx = w2) (fun iv _ => b - (intOf iv).toNat)
     case atStart => exact ⟨k + 1, by have := HB.out; omega, by go_num, HB.out, rfl⟩
     case round =>
      obtain ⟨j, hk, rfl, hka, rfl⟩ := hrel
      cases hat : atB isDig s.data.toList j with
      | true =>
       have h1 := (dig_in hat).2
       have h2 := (dig_in hat).1
       have HC := Lib.hid (HD.out j (by omega))
       rw [hat] at HC
       have HK := Lib.hid (show j + 1 + digN (s.data.toList.drop (j + 1)) = b by omega)
       have hk1 : j + 1 ≤ b := by omega
       clear hat hka h1 h2
       go_wp2_with fail
       refine (HC.out _).mono ?_
       rintro e w2 ⟨rfl, rfl⟩
       go_wp2_with fail
       go_roundw
       case rel => exact ⟨j + 1, hk1, by go_num, HK.out, trivial⟩
       case measure => simp only [intOf]; omega
      | false =>
       have h1 := dig_out hat
       obtain rfl : j = b := by omega
       have HCj := Lib.hid (HD.out j (by omega))
       rw [hat] at HCj
       clear hat hka h1 hk
       have HX := Lib.hid (exp_at s.data.toList j)
       have HSG := Lib.hid (sg_at s.data.toList (j + 1))
       obtain ⟨g, hg⟩ : ∃ g, sgN (s.data.toList.drop (j + 1)) = g := ⟨_, rfl⟩
       rw [hg] at HX HSG
       have H43 := Lib.hid (HI.out (j + 1) 43 (by omega))
       have H45 := Lib.hid (HI.out (j + 1) 45 (by omega))
       have H101 := Lib.hid (HI.out j 101 (by omega))
       clear hg
       cases h43 : atB (· == 43) s.data.toList (j + 1) with
       | true =>
        rw [h43] at H43
        obtain rfl : g = 1 := by have := HSG.out; simpa [h43] using this
        have HE := Lib.hid (HD.out (j + 1 + 1) (by omega))
        clear HSG h43
        cases h101 : atB (· == 101) s.data.toList j with
        | false =>
         rw [h101] at H101
         have HV := Lib.hid (And.intro HV0.out (show expN (s.data.toList.drop j) = 0 by rw [HX.out, h101, if_neg (by simp)]))
         clear h101
         go_wp2_with fail
         refine (HCj.out _).mono ?_
         rintro e w2 ⟨rfl, rfl⟩
         go_wp2_with fail
         refine (H43.out _).mono ?_
         rintro e w2 ⟨rfl, rfl⟩
         go_wp2_with fail
         refine (H101.out _).mono ?_
         rintro e w2 ⟨rfl, rfl⟩
         go_wp2_with fail
         go_ret2
         exact ⟨by unfold numOut; rw [HV.out.1]; exact ret_pair rfl (by have := HV.out.2; have h5 := HA.out; have h6 := HB.out; simp only; omega), rfl⟩
        | true =>
         rw [h101] at H101
         cases hde : atB isDig s.data.toList (j + 1 + 1) with
         | false =>
          rw [hde] at HE
          have HV := Lib.hid (And.intro HV0.out (show expN (s.data.toList.drop j) = 0 by rw [HX.out, hde, if_neg (by simp)]))
          clear h101 hde
          go_wp2_with fail
          refine (HCj.out _).mono ?_
          rintro e w2 ⟨rfl, rfl⟩
          go_wp2_with fail
          refine (H43.out _).mono ?_
          rintro e w2 ⟨rfl, rfl⟩
          go_wp2_with fail
          refine (H101.out _).mono ?_
          rintro e w2 ⟨rfl, rfl⟩
          go_wp2_with fail
          refine (HE.out _).mono ?_
          rintro e w2 ⟨rfl, rfl⟩
          go_wp2_with fail
          go_ret2
          exact ⟨by unfold numOut; rw [HV.out.1]; exact ret_pair rfl (by have := HV.out.2; have h5 := HA.out; have h6 := HB.out; simp only; omega), rfl⟩
         | true =>
          rw [hde] at HE
          have HV := Lib.hid (And.intro HV0.out (show expN (s.data.toList.drop j) = 1 + 1 + digN (s.data.toList.drop (j + 1 + 1)) by rw [HX.out, h101, hde, if_pos ⟨rfl, rfl⟩]))
          have hjl := atB_lt hde
          have hdl := digN_drop_le s.data.toList (j + 1 + 1)
          rw [HSZ.out] at hjl hdl
          clear h101 hde
          obtain ⟨z, hz⟩ : ∃ z, j + 1 + 1 + digN (s.data.toList.drop (j + 1 + 1)) = z := ⟨_, rfl⟩
          have HZ := Lib.hid hz
          have hzl : z ≤ s.size := by omega
          clear hz hdl
          go_wp2_with fail
          refine (HCj.out _).mono ?_
          rintro e w2 ⟨rfl, rfl⟩
          go_wp2_with fail
          refine (H43.out _).mono ?_
          rintro e w2 ⟨rfl, rfl⟩
          go_wp2_with fail
          refine (H101.out _).mono ?_
          rintro e w2 ⟨rfl, rfl⟩
          go_wp2_with fail
          refine (HE.out _).mono ?_
          rintro e w2 ⟨rfl, rfl⟩
          go_wp2_with fail
          go_loopw [6] (fun iv wx => ∃ k : Nat, k ≤ z ∧ iv = .int .i64 k ∧ k + digN (s.data.toList.drop k) = z ∧ wx = w2) (fun iv _ => z - (intOf iv).toNat)
          case atStart => exact ⟨j + 1 + 1, by have := HZ.out; omega, by go_num, HZ.out, rfl⟩
          case round =>
           obtain ⟨u, hk, rfl, hka, rfl⟩ := hrel
           cases hat : atB isDig s.data.toList u with
           | true =>
            have h1 := (dig_in hat).2
            have h2 := (dig_in hat).1
            have HC := Lib.hid (HD.out u (by omega))
            rw [hat] at HC
            have HK := Lib.hid (show u + 1 + digN (s.data.toList.drop (u + 1)) = z by omega)
            have hk1 : u + 1 ≤ z := by omega
            clear hat hka h1 h2
            go_wp2_with fail
            refine (HC.out _).mono ?_
            rintro e w2 ⟨rfl, rfl⟩
            go_wp2_with fail
            go_roundw
            case rel => exact ⟨u + 1, hk1, by go_num, HK.out, trivial⟩
            case measure => simp only [intOf]; omega
           | false =>
            have h1 := dig_out hat
            obtain rfl : u = z := by omega
            have HCu := Lib.hid (HD.out u (by omega))
            rw [hat] at HCu
            clear hat hka h1 hk
            go_wp2_with fail
            refine (HCu.out _).mono ?_
            rintro e w2 ⟨rfl, rfl⟩
            go_wp2_with fail
            go_ret2
            exact ⟨by unfold numOut; rw [HV.out.1]; exact ret_pair rfl (by have := HV.out.2; have h5 := HA.out; have h6 := HB.out; have h7 := HZ.out; simp only; omega), rfl⟩
       | false =>
        rw [h43] at H43
        cases h45 : atB (· == 45) s.data.toList (j + 1) with
        | true =>
         rw [h45] at H45
         obtain rfl : g = 1 := by have := HSG.out; simpa [h43, h45] using this
         have HE := Lib.hid (HD.out (j + 1 + 1) (by omega))
         clear HSG h43 h45
         cases h101 : atB (· == 101) s.data.toList j with
         | false =>
          rw [h101] at H101
          have HV := Lib.hid (And.intro HV0.out (show expN (s.data.toList.drop j) = 0 by rw [HX.out, h101, if_neg (by simp)]))
          clear h101
          go_wp2_with fail
          refine (HCj.out _).mono ?_
          rintro e w2 ⟨rfl, rfl⟩
          go_wp2_with fail
          refine (H43.out _).mono ?_
          rintro e w2 ⟨rfl, rfl⟩
          go_wp2_with fail
          refine (H45.out _).mono ?_
          rintro e w2 ⟨rfl, rfl⟩
          go_wp2_with fail
          refine (H101.out _).mono ?_
          rintro e w2 ⟨rfl, rfl⟩
          go_wp2_with fail
          go_ret2
          exact ⟨by unfold numOut; rw [HV.out.1]; exact ret_pair rfl (by have := HV.out.2; have h5 := HA.out; have h6 := HB.out; simp only; omega), rfl⟩
         | true =>
          rw [h101] at H101
          cases hde : atB isDig s.data.toList (j + 1 + 1) with
          | false =>
           rw [hde] at HE
           have HV := Lib.hid (And.intro HV0.out (show expN (s.data.toList.drop j) = 0 by rw [HX.out, hde, if_neg (by simp)]))
           clear h101 hde
           go_wp2_with fail
           refine (HCj.out _).mono ?_
           rintro e w2 ⟨rfl, rfl⟩
           go_wp2_with fail
           refine (H43.out _).mono ?_
           rintro e w2 ⟨rfl, rfl⟩
           go_wp2_with fail
           refine (H45.out _).mono ?_
           rintro e w2 ⟨rfl, rfl⟩
           go_wp2_with fail
           refine (H101.out _).mono ?_
           rintro e w2 ⟨rfl, rfl⟩
           go_wp2_with fail
           refine (HE.out _).mono ?_
           rintro e w2 ⟨rfl, rfl⟩
           go_wp2_with fail
           go_ret2
           exact ⟨by unfold numOut; rw [HV.out.1]; exact ret_pair rfl (by have := HV.out.2; have h5 := HA.out; have h6 := HB.out; simp only; omega), rfl⟩
          | true =>
           rw [hde] at HE
           have HV := Lib.hid (And.intro HV0.out (show expN (s.data.toList.drop j) = 1 + 1 + digN (s.data.toList.drop (j + 1 + 1)) by rw [HX.out, h101, hde, if_pos ⟨rfl, rfl⟩]))
           have hjl := atB_lt hde
           have hdl := digN_drop_le s.data.toList (j + 1 + 1)
           rw [HSZ.out] at hjl hdl
           clear h101 hde
           obtain ⟨z, hz⟩ : ∃ z, j + 1 + 1 + digN (s.data.toList.drop (j + 1 + 1)) = z := ⟨_, rfl⟩
           have HZ := Lib.hid hz
           have hzl : z ≤ s.size := by omega
           clear hz hdl
           go_wp2_with fail
           refine (HCj.out _).mono ?_
           rintro e w2 ⟨rfl, rfl⟩
           go_wp2_with fail
           refine (H43.out _).mono ?_
           rintro e w2 ⟨rfl, rfl⟩
           go_wp2_with fail
           refine (H45.out _).mono ?_
           rintro e w2 ⟨rfl, rfl⟩
           go_wp2_with fail
           refine (H101.out _).mono ?_
           rintro e w2 ⟨rfl, rfl⟩
           go_wp2_with fail
           refine (HE.out _).mono ?_
           rintro e w2 ⟨rfl, rfl⟩
           go_wp2_with fail
           go_loopw [6] (fun iv wx => ∃ k : Nat, k ≤ z ∧ iv = .int .i64 k ∧ k + digN (s.data.toList.drop k) = z ∧ wx = w2) (fun iv _ => z - (intOf iv).toNat)
           case atStart => exact ⟨j + 1 + 1, by have := HZ.out; omega, by go_num, HZ.out, rfl⟩
           case round =>
            obtain ⟨u, hk, rfl, hka, rfl⟩ := hrel
            cases hat : atB isDig s.data.toList u with
            | true =>
             have h1 := (dig_in hat).2
             have h2 := (dig_in hat).1
             have HC := Lib.hid (HD.out u (by omega))
             rw [hat] at HC
             have HK := Lib.hid (show u + 1 + digN (s.data.toList.drop (u + 1)) = z by omega)
             have hk1 : u + 1 ≤ z := by omega
             clear hat hka h1 h2
             go_wp2_with fail
             refine (HC.out _).mono ?_
             rintro e w2 ⟨rfl, rfl⟩
             go_wp2_with fail
             go_roundw
             case rel => exact ⟨u + 1, hk1, by go_num, HK.out, trivial⟩
             case measure => simp only [intOf]; omega
            | false =>
             have h1 := dig_out hat
             obtain rfl : u = z := by omega
             have HCu := Lib.hid (HD.out u (by omega))
             rw [hat] at HCu
             clear hat hka h1 hk
             go_wp2_with fail
             refine (HCu.out _).mono ?_
             rintro e w2 ⟨rfl, rfl⟩
             go_wp2_with fail
             go_ret2
             exact ⟨by unfold numOut; rw [HV.out.1]; exact ret_pair rfl (by have := HV.out.2; have h5 := HA.out; have h6 := HB.out; have h7 := HZ.out; simp only; omega), rfl⟩
        | false =>
         rw [h45] at H45
         obtain rfl : g = 0 := by have := HSG.out; simpa [h43, h45] using this
         have HE := Lib.hid (HD.out (j + 1 + 0) (by omega))
         clear HSG h43 h45
         cases h101 : atB (· == 101) s.data.toList j with
         | false =>
          rw [h101] at H101
          have HV := Lib.hid (And.intro HV0.out (show expN (s.data.toList.drop j) = 0 by rw [HX.out, h101, if_neg (by simp)]))
          clear h101
          go_wp2_with fail
          refine (HCj.out _).mono ?_
          rintro e w2 ⟨rfl, rfl⟩
          go_wp2_with fail
          refine (H43.out _).mono ?_
          rintro e w2 ⟨rfl, rfl⟩
          go_wp2_with fail
          refine (H45.out _).mono ?_
          rintro e w2 ⟨rfl, rfl⟩
          go_wp2_with fail
          refine (H101.out _).mono ?_
          rintro e w2 ⟨rfl, rfl⟩
          go_wp2_with fail
          go_ret2
          exact ⟨by unfold numOut; rw [HV.out.1]; exact ret_pair rfl (by have := HV.out.2; have h5 := HA.out; have h6 := HB.out; simp only; omega), rfl⟩
         | true =>
          rw [h101] at H101
          cases hde : atB isDig s.data.toList (j + 1 + 0) with
          | false =>
           rw [hde] at HE
           have HV := Lib.hid (And.intro HV0.out (show expN (s.data.toList.drop j) = 0 by rw [HX.out, hde, if_neg (by simp)]))
           clear h101 hde
           go_wp2_with fail
           refine (HCj.out _).mono ?_
           rintro e w2 ⟨rfl, rfl⟩
           go_wp2_with fail
           refine (H43.out _).mono ?_
           rintro e w2 ⟨rfl, rfl⟩
           go_wp2_with fail
           refine (H45.out _).mono ?_
           rintro e w2 ⟨rfl, rfl⟩
           go_wp2_with fail
           refine (H101.out _).mono ?_
           rintro e w2 ⟨rfl, rfl⟩
           go_wp2_with fail
           refine (HE.out _).mono ?_
           rintro e w2 ⟨rfl, rfl⟩
           go_wp2_with fail
           go_ret2
           exact ⟨by unfold numOut; rw [HV.out.1]; exact ret_pair rfl (by have := HV.out.2; have h5 := HA.out; have h6 := HB.out; simp only; omega), rfl⟩
          | true =>
           rw [hde] at HE
           have HV := Lib.hid (And.intro HV0.out (show expN (s.data.toList.drop j) = 1 + 0 + digN (s.data.toList.drop (j + 1 + 0)) by rw [HX.out, h101, hde, if_pos ⟨rfl, rfl⟩]))
           have hjl := atB_lt hde
           have hdl := digN_drop_le s.data.toList (j + 1 + 0)
           rw [HSZ.out] at hjl hdl
           clear h101 hde
           obtain ⟨z, hz⟩ : ∃ z, j + 1 + 0 + digN (s.data.toList.drop (j + 1 + 0)) = z := ⟨_, rfl⟩
           have HZ := Lib.hid hz
           have hzl : z ≤ s.size := by omega
           clear hz hdl
           go_wp2_with fail
           refine (HCj.out _).mono ?_
           rintro e w2 ⟨rfl, rfl⟩
           go_wp2_with fail
           refine (H43.out _).mono ?_
           rintro e w2 ⟨rfl, rfl⟩
           go_wp2_with fail
           refine (H45.out _).mono ?_
           rintro e w2 ⟨rfl, rfl⟩
           go_wp2_with fail
           refine (H101.out _).mono ?_
           rintro e w2 ⟨rfl, rfl⟩
           go_wp2_with fail
           refine (HE.out _).mono ?_
           rintro e w2 ⟨rfl, rfl⟩
           go_wp2_with fail
           go_loopw [6] (fun iv wx => ∃ k : Nat, k ≤ z ∧ iv = .int .i64 k ∧ k + digN (s.data.toList.drop k) = z ∧ wx = w2) (fun iv _ => z - (intOf iv).toNat)
           case atStart => exact ⟨j + 1 + 0, by have := HZ.out; omega, by go_num, HZ.out, rfl⟩
           case round =>
            obtain ⟨u, hk, rfl, hka, rfl⟩ := hrel
            cases hat : atB isDig s.data.toList u with
            | true =>
             have h1 := (dig_in hat).2
             have h2 := (dig_in hat).1
             have HC := Lib.hid (HD.out u (by omega))
             rw [hat] at HC
             have HK := Lib.hid (show u + 1 + digN (s.data.toList.drop (u + 1)) = z by omega)
             have hk1 : u + 1 ≤ z := by omega
             clear hat hka h1 h2
             go_wp2_with fail
             refine (HC.out _).mono ?_
             rintro e w2 ⟨rfl, rfl⟩
             go_wp2_with fail
             go_roundw
             case rel => exact ⟨u + 1, hk1, by go_num, HK.out, trivial⟩
             case measure => simp only [intOf]; omega
            | false =>
             have h1 := dig_out hat
             obtain rfl : u = z := by omega
             have HCu := Lib.hid (HD.out u (by omega))
             rw [hat] at HCu
             clear hat hka h1 hk
             go_wp2_with fail
             refine (HCu.out _).mono ?_
             rintro e w2 ⟨rfl, rfl⟩
             go_wp2_with fail
             go_ret2
             exact ⟨by unfold numOut; rw [HV.out.1]; exact ret_pair rfl (by have := HV.out.2; have h5 := HA.out; have h6 := HB.out; have h7 := HZ.out; simp only; omega), rfl⟩
end

section
open Go.RowKit
set_option linter.unusedVariables false
set_option linter.unusedSimpArgs false
theorem is_head {L : BL} {j : Nat} {x : UInt8} (h : atB (· == x) L j = true) : L.drop j = x :: L.drop (j + 1) := drop_at (is_some.1 h)
theorem esc_n {L : BL} {j : Nat} (h : atB (· == 110) L j = true) : escV (L.drop j) = some (10, 1) := by rw [is_head h]; rfl
theorem esc_t {L : BL} {j : Nat} (h : atB (· == 116) L j = true) : escV (L.drop j) = some (9, 1) := by rw [is_head h]; rfl
theorem esc_q {L : BL} {j : Nat} (h : atB (· == 34) L j = true) : escV (L.drop j) = some (34, 1) := by rw [is_head h]; rfl
theorem esc_b {L : BL} {j : Nat} (h : atB (· == 92) L j = true) : escV (L.drop j) = some (92, 1) := by rw [is_head h]; rfl
theorem esc_no {L : BL} {j : Nat} (h1 : atB (· == 110) L j = false) (h2 : atB (· == 116) L j = false) (h3 : atB (· == 34) L j = false) (h4 : atB (· == 92) L j = false) (h5 : atB (· == 120) L j = false) : escV (L.drop j) = none := by
 cases hd : L.drop j with
 | nil => rfl
 | cons c r =>
  have hc : L[j]? = some c := by have := congrArg (fun l => l[0]?) hd; simpa using this
  have key : ∀ x : UInt8, atB (· == x) L j = false → c.toNat ≠ x.toNat := fun x hx e => by
   have e2 : c = x := UInt8.toNat_inj.1 e
   subst e2
   rw [is_some.2 hc] at hx; cases hx
  have k1 : c.toNat ≠ 110 := key _ h1
  have k2 : c.toNat ≠ 116 := key _ h2
  have k3 : c.toNat ≠ 34 := key _ h3
  have k4 : c.toNat ≠ 92 := key _ h4
  have k5 : c.toNat ≠ 120 := key _ h5
  have e : escV (c :: r) = if c.toNat = 110 then some (10, 1) else if c.toNat = 116 then some (9, 1) else if c.toNat = 34 ∨ c.toNat = 92 then some (c, 1)
   else if c.toNat = 120 then (match r with
    | a :: b :: _ => (match hexV a, hexV b with
     | some h, some l => some (UInt8.ofNat (h * 16 + l), 3)
     | _, _ => none)
    | _ => none)
   else none := rfl
  rw [e, if_neg k1, if_neg k2, if_neg (fun q => q.elim k3 k4), if_neg k5]
theorem rhxI_none {L : BL} {i : Nat} (h : L[i]? = none) : rhxI L i = -1 := by unfold rhxI; rw [h]
theorem rhxI_some {L : BL} {i : Nat} {c : UInt8} (h : L[i]? = some c) : rhxI L i = (match hexV c with | some v => (v : Int) | none => -1) := by first | (unfold rhxI; rw [h]; done) | (unfold rhxI; rw [h]; rfl)
theorem esc_x {L : BL} {j : Nat} (h : atB (· == 120) L j = true) : (∃ a b : Nat, rhxI L (j + 1) = a ∧ rhxI L (j + 2) = b ∧ a < 16 ∧ b < 16 ∧ escV (L.drop j) = some (UInt8.ofNat (a * 16 + b), 3)) ∨
  (¬ 0 ≤ rhxI L (j + 1) ∧ escV (L.drop j) = none) ∨ ∃ a : Nat, rhxI L (j + 1) = a ∧ a < 16 ∧ ¬ 0 ≤ rhxI L (j + 2) ∧ escV (L.drop j) = none := by
 rw [is_head h]
 have e : escV (120 :: L.drop (j + 1)) = (match L.drop (j + 1) with
       | a :: b :: _ => (match hexV a, hexV b with
        | some h, some l => some (UInt8.ofNat (h * 16 + l), 3)
        | _, _ => none)
       | _ => none) := rfl
 rw [e]
 cases hd : L.drop (j + 1) with
 | nil =>
  have : L[j + 1]? = none := by rw [List.getElem?_eq_none_iff]; exact List.drop_eq_nil_iff.1 hd
  exact .inr (.inl ⟨by rw [rhxI_none this]; decide, rfl⟩)
 | cons x r =>
  have h1 : L[j + 1]? = some x := by have := congrArg (fun l => l[0]?) hd; simpa using this
  cases r with
  | nil =>
   have h2 : L[j + 2]? = none := by have := congrArg (fun l => l[1]?) hd; simpa using this
   rw [rhxI_none h2, rhxI_some h1]
   cases hx : hexV x with
   | none => exact .inr (.inl ⟨by decide, rfl⟩)
   | some v => exact .inr (.inr ⟨v, rfl, hexV_lt hx, by decide, rfl⟩)
  | cons y r =>
   have h2 : L[j + 2]? = some y := by have := congrArg (fun l => l[1]?) hd; simpa using this
   rw [rhxI_some h2, rhxI_some h1]
   simp only
   cases hx : hexV x with
   | none => exact .inr (.inl ⟨by decide, rfl⟩)
   | some v =>
    cases hy : hexV y with
    | none => exact .inr (.inr ⟨v, rfl, hexV_lt hx, by decide, rfl⟩)
    | some u => exact .inl ⟨v, u, rfl, rfl, hexV_lt hx, hexV_lt hy, rfl⟩
set_option maxRecDepth 100000 in
theorem conv_bytes {w : World} {B : Nat} {v : Value} {bs : BL} (h : Own bc 1 5 w B v bs) : (convert 62 9 v).run Tryz.prog w = .ok (.string (toBA bs)) w := by
 rcases h.2 with ⟨e, h0⟩ | ⟨g, cap', cur, e, _, hg, hc, _, hs, ht⟩
 · have hb : bs = [] := List.eq_nil_of_length_eq_zero h0
   subst hb; subst e
   exact run_convert_bytes_nil w 62 5 Tryz.underlying62 Tryz.underlying5 0 0 9 Tryz.underlying9
 · subst e
   refine run_convert_bytes_back (P := Tryz.prog) w 62 9 5 ⟨g, 0, none⟩ cap' bs Tryz.underlying62 Tryz.underlying5 Tryz.underlying9 fun j hj => ?_
   rw [Addr.add_lit, Nat.zero_add, cell_of_row _ _ _ _ _ _ hg, ← Array.getElem?_toList]
   have : (cur.toList.take (bs.length * 1))[j]? = cur.toList[j]? := by rw [List.getElem?_take, if_pos (by omega)]
   rw [← this, ht, bytes_flat, Lib.byteCells, List.getElem?_map, List.getElem?_eq_getElem hj]
   rfl
set_option maxRecDepth 100000 in
set_option maxHeartbeats 12800000 in
theorem rquoted (s : ByteArray) (i : Nat) (w : World) (hs : s.size ≤ 999990) (hi : i < s.size) :
  Calls Tryz.prog 41 #[.string s, .int .i64 (i : Int)] w fun e w' => e = .returned (quotOut (quotAt s.data.toList (i + 1) [])) ∧ Below w.heap.size w w' := by
 obtain ⟨i0, hi5, hz0, hz1, hz2⟩ := info_cut (show (Tryz.prog.info? 5).map (fun i => (i.zero, i.size, i.bytes)) = some (some (.int .u8 0), 1, 1) by kernel_rfl)
 have hsz : s.data.toList.length = s.size := rfl
 have HSZ := Lib.hid hsz
 have HI := Lib.hid (fun k x (hk : k ≤ 1000000) w => ris s k x w (by omega) (by omega))
 have HH := Lib.hid (fun k (hk : k ≤ 1000000) w => rhex s k w (by omega) hk)
 have HSB := Lib.hid (Below.refl w.heap.size w)
 clear hsz
 go_enter Tryz.func41, Tryz.ntmps41
 go_wp2_with fail
 go_loopw [1, 6] (fun iv bv wr => ∃ (k : Nat) (b : BL), k ≤ s.size ∧ iv = .int .i64 k ∧ b.length ≤ k ∧ quotAt s.data.toList (i + 1) [] = quotAt s.data.toList k b ∧ Own bc 1 5 wr w.heap.size bv b ∧ Below w.heap.size w wr) (fun iv _ _ => s.size - (intOf iv).toNat)
 case atStart => exact ⟨i + 1, [], by omega, by go_num, by simp, rfl, Own.nil_, HSB.out⟩
 case round =>
  obtain ⟨k, b, hk, rfl, hbl, hv, hib, hbe⟩ := hrel
  have HIB := Lib.hid hib
  have HBE := Lib.hid hbe
  clear hib hbe
  by_cases hlt : k < s.size
  case neg =>
   have HV := Lib.hid (hv.trans (quotAt_end (by rw [HSZ.out]; omega)))
   have hlt2 : ¬ (k : Int) < (s.size : Int) := by omega
   clear hv
   go_wp2_with fail
   go_ret2
   exact ⟨by rw [HV.out]; rfl, HBE.out⟩
  obtain ⟨c, hc⟩ : ∃ c, s[k] = c := ⟨_, rfl⟩
  have hlt2 : (k : Int) < (s.size : Int) := by omega
  rw [quotAt_in hlt hc] at hv
  by_cases c1 : c.toNat = 34
  · have b1 : ((c.toNat : Int) == 34) = true := beq_iff_eq.2 (by omega)
    rw [if_pos c1] at hv
    have HV := Lib.hid hv
    have hcv := conv_bytes HIB.out
    clear hv c1
    go_wp2_with fail
    go_ret2
    exact ⟨by rw [HV.out]; exact rfl, HBE.out⟩
  have b1 : ((c.toNat : Int) == 34) = false := beq_eq_false_iff_ne.2 (by omega)
  rw [if_neg c1] at hv
  by_cases c2 : c.toNat < 32
  · have b2 : (c.toNat : Int) < 32 := by omega
    rw [if_pos (.inl c2)] at hv
    have HV := Lib.hid hv
    clear hv c1 c2
    go_wp2_with fail
    go_ret2
    exact ⟨by rw [HV.out]; rfl, HBE.out⟩
  have b2 : ¬ (c.toNat : Int) < 32 := by omega
  by_cases c3 : c.toNat = 127
  · have b3 : ((c.toNat : Int) == 127) = true := beq_iff_eq.2 (by omega)
    rw [if_pos (.inr c3)] at hv
    have HV := Lib.hid hv
    clear hv c1 c2 c3
    go_wp2_with fail
    go_ret2
    exact ⟨by rw [HV.out]; rfl, HBE.out⟩
  have b3 : ((c.toNat : Int) == 127) = false := beq_eq_false_iff_ne.2 (by omega)
  rw [if_neg (by omega)] at hv
  by_cases c4 : c.toNat = 92
  case neg =>
   have b4 : ((c.toNat : Int) == 92) = false := beq_eq_false_iff_ne.2 (by omega)
   rw [if_neg c4] at hv
   have HV := Lib.hid hv
   clear hv c1 c2 c3 c4
   go_wp2_with (at_builtin; go_must (refine wpList_append_one (cs := bc) rfl _ _ 62 rfl 5 i0 _ 1 Tryz.underlying62 hi5 hz0 hz1 hz2 rfl (by decide) bc_len bc_one wr w.heap.size wr.heap.size _ b c _ (by simp [bc]) (by rfl) (by rfl) rfl HIB.out (by unfold maxLen; omega) (by omega) HBE.out.size ?_); intro v' w2 hown' hgrow hat; obtain ⟨ao, n', cap, rfl⟩ := own_slice hown'; have HO2 := Lib.hid hown'; have HB2 := Lib.hid (below_grown HBE.out HIB.out HBE.out.size hgrow); clear hown' hgrow hat)
   go_roundw
   case rel => exact ⟨k + 1, b ++ [c], by omega, by go_num, by simp; omega, HV.out, HO2.out, HB2.out⟩
   case measure => simp only [intOf]; omega
  have b4 : ((c.toNat : Int) == 92) = true := beq_iff_eq.2 (by omega)
  rw [if_pos c4] at hv
  have H1 := Lib.hid (HI.out (k + 1) 110 (by omega) wr)
  have H2 := Lib.hid (HI.out (k + 1) 116 (by omega) wr)
  have H3 := Lib.hid (HI.out (k + 1) 34 (by omega) wr)
  have H4 := Lib.hid (HI.out (k + 1) 92 (by omega) wr)
  have H5 := Lib.hid (HI.out (k + 1) 120 (by omega) wr)
  have G1 := Lib.hid (HH.out (k + 2) (by omega) wr)
  have G2 := Lib.hid (HH.out (k + 3) (by omega) wr)
  clear c1 c2 c3 c4
  cases q1 : atB (· == 110) s.data.toList (k + 1) with
  | true =>
   rw [q1] at H1
   have hes := esc_n q1
   have hlt3 := atB_lt q1
   rw [HSZ.out] at hlt3
   rw [hes] at hv
   have HV := Lib.hid (show quotAt s.data.toList (i + 1) [] = quotAt s.data.toList (k + 1 + 1) (b ++ [10]) from hv)
   clear hv hes q1
   go_wp2_with fail
   refine H1.out.mono ?_
   rintro e w3 ⟨rfl, rfl⟩
   go_wp2_with (at_builtin; go_must (refine wpList_append_one (cs := bc) rfl _ _ 62 rfl 5 i0 _ 1 Tryz.underlying62 hi5 hz0 hz1 hz2 rfl (by decide) bc_len bc_one w3 w.heap.size w3.heap.size _ b 10 _ (by simp [bc]) (by rfl) (by rfl) rfl HIB.out (by unfold maxLen; omega) (by omega) HBE.out.size ?_); intro v' w2 hown' hgrow hat; obtain ⟨ao, n', cap, rfl⟩ := own_slice hown'; have HO2 := Lib.hid hown'; have HB2 := Lib.hid (below_grown HBE.out HIB.out HBE.out.size hgrow); clear hown' hgrow hat)
   go_roundw
   case rel => exact ⟨k + 1 + 1, b ++ [10], by omega, by go_num, by simp; omega, HV.out, HO2.out, HB2.out⟩
   case measure => simp only [intOf]; omega
  | false =>
   rw [q1] at H1
   cases q2 : atB (· == 116) s.data.toList (k + 1) with
   | true =>
    rw [q2] at H2
    have hes := esc_t q2
    have hlt3 := atB_lt q2
    rw [HSZ.out] at hlt3
    rw [hes] at hv
    have HV := Lib.hid (show quotAt s.data.toList (i + 1) [] = quotAt s.data.toList (k + 1 + 1) (b ++ [9]) from hv)
    clear hv hes q1 q2
    go_wp2_with fail
    refine H1.out.mono ?_
    rintro e w3 ⟨rfl, rfl⟩
    go_wp2_with fail
    refine H2.out.mono ?_
    rintro e w3 ⟨rfl, rfl⟩
    go_wp2_with (at_builtin; go_must (refine wpList_append_one (cs := bc) rfl _ _ 62 rfl 5 i0 _ 1 Tryz.underlying62 hi5 hz0 hz1 hz2 rfl (by decide) bc_len bc_one w3 w.heap.size w3.heap.size _ b 9 _ (by simp [bc]) (by rfl) (by rfl) rfl HIB.out (by unfold maxLen; omega) (by omega) HBE.out.size ?_); intro v' w2 hown' hgrow hat; obtain ⟨ao, n', cap, rfl⟩ := own_slice hown'; have HO2 := Lib.hid hown'; have HB2 := Lib.hid (below_grown HBE.out HIB.out HBE.out.size hgrow); clear hown' hgrow hat)
    go_roundw
    case rel => exact ⟨k + 1 + 1, b ++ [9], by omega, by go_num, by simp; omega, HV.out, HO2.out, HB2.out⟩
    case measure => simp only [intOf]; omega
   | false =>
    rw [q2] at H2
    cases q3 : atB (· == 34) s.data.toList (k + 1) with
    | true =>
     rw [q3] at H3
     have hes := esc_q q3
     have hlt3 := atB_lt q3
     rw [HSZ.out] at hlt3
     rw [hes] at hv
     have HV := Lib.hid (show quotAt s.data.toList (i + 1) [] = quotAt s.data.toList (k + 1 + 1) (b ++ [34]) from hv)
     have hg2 := at_get hlt3
     rw [is_some.1 q3] at hg2
     have hix : s[k + 1] = 34 := (Option.some.inj hg2).symm
     have hlt4 : (k : Int) + 1 < (s.size : Int) := by omega
     clear hv hes q1 q2 q3 hg2
     go_wp2_with fail
     refine H1.out.mono ?_
     rintro e w3 ⟨rfl, rfl⟩
     go_wp2_with fail
     refine H2.out.mono ?_
     rintro e w3 ⟨rfl, rfl⟩
     go_wp2_with fail
     refine H3.out.mono ?_
     rintro e w3 ⟨rfl, rfl⟩
     go_wp2_with (at_builtin; go_must (refine wpList_append_one (cs := bc) rfl _ _ 62 rfl 5 i0 _ 1 Tryz.underlying62 hi5 hz0 hz1 hz2 rfl (by decide) bc_len bc_one w3 w.heap.size w3.heap.size _ b 34 _ (by simp [bc]) (by rfl) (by rfl) rfl HIB.out (by unfold maxLen; omega) (by omega) HBE.out.size ?_); intro v' w2 hown' hgrow hat; obtain ⟨ao, n', cap, rfl⟩ := own_slice hown'; have HO2 := Lib.hid hown'; have HB2 := Lib.hid (below_grown HBE.out HIB.out HBE.out.size hgrow); clear hown' hgrow hat)
     go_roundw
     case rel => exact ⟨k + 1 + 1, b ++ [34], by omega, by go_num, by simp; omega, HV.out, HO2.out, HB2.out⟩
     case measure => simp only [intOf]; omega
    | false =>
     rw [q3] at H3
     cases q4 : atB (· == 92) s.data.toList (k + 1) with
     | true =>
      rw [q4] at H4
      have hes := esc_b q4
      have hlt3 := atB_lt q4
      rw [HSZ.out] at hlt3
      rw [hes] at hv
      have HV := Lib.hid (show quotAt s.data.toList (i + 1) [] = quotAt s.data.toList (k + 1 + 1) (b ++ [92]) from hv)
      have hg2 := at_get hlt3
      rw [is_some.1 q4] at hg2
      have hix : s[k + 1] = 92 := (Option.some.inj hg2).symm
      have hlt4 : (k : Int) + 1 < (s.size : Int) := by omega
      clear hv hes q1 q2 q3 q4 hg2
      go_wp2_with fail
      refine H1.out.mono ?_
      rintro e w3 ⟨rfl, rfl⟩
      go_wp2_with fail
      refine H2.out.mono ?_
      rintro e w3 ⟨rfl, rfl⟩
      go_wp2_with fail
      refine H3.out.mono ?_
      rintro e w3 ⟨rfl, rfl⟩
      go_wp2_with fail
      refine H4.out.mono ?_
      rintro e w3 ⟨rfl, rfl⟩
      go_wp2_with (at_builtin; go_must (refine wpList_append_one (cs := bc) rfl _ _ 62 rfl 5 i0 _ 1 Tryz.underlying62 hi5 hz0 hz1 hz2 rfl (by decide) bc_len bc_one w3 w.heap.size w3.heap.size _ b 92 _ (by simp [bc]) (by rfl) (by rfl) rfl HIB.out (by unfold maxLen; omega) (by omega) HBE.out.size ?_); intro v' w2 hown' hgrow hat; obtain ⟨ao, n', cap, rfl⟩ := own_slice hown'; have HO2 := Lib.hid hown'; have HB2 := Lib.hid (below_grown HBE.out HIB.out HBE.out.size hgrow); clear hown' hgrow hat)
      go_roundw
      case rel => exact ⟨k + 1 + 1, b ++ [92], by omega, by go_num, by simp; omega, HV.out, HO2.out, HB2.out⟩
      case measure => simp only [intOf]; omega
     | false =>
      rw [q4] at H4
      cases q5 : atB (· == 120) s.data.toList (k + 1) with
      | false =>
       rw [q5] at H5
       rw [esc_no q1 q2 q3 q4 q5] at hv
       have HV := Lib.hid (show quotAt s.data.toList (i + 1) [] = none from hv)
       clear hv q1 q2 q3 q4 q5
       go_wp2_with fail
       refine H1.out.mono ?_
       rintro e w3 ⟨rfl, rfl⟩
       go_wp2_with fail
       refine H2.out.mono ?_
       rintro e w3 ⟨rfl, rfl⟩
       go_wp2_with fail
       refine H3.out.mono ?_
       rintro e w3 ⟨rfl, rfl⟩
       go_wp2_with fail
       refine H4.out.mono ?_
       rintro e w3 ⟨rfl, rfl⟩
       go_wp2_with fail
       refine H5.out.mono ?_
       rintro e w3 ⟨rfl, rfl⟩
       go_wp2_with fail
       go_ret2
       exact ⟨by rw [HV.out]; rfl, HBE.out⟩
      | true =>
       rw [q5] at H5
       rcases esc_x q5 with ⟨x, y, hx, hy, hx16, hy16, hes⟩ | ⟨hx, hes⟩ | ⟨x, hx, hx16, hy, hes⟩
       · have hl5 : k + 4 ≤ s.size := by
          rcases Nat.lt_or_ge (k + 3) s.size with h | h
          · omega
          · rw [rhxI_out h] at hy; omega
         rw [hes] at hv
         rw [show k + 1 + 1 = k + 2 by omega] at hx
         rw [show k + 1 + 2 = k + 3 by omega] at hy
         rw [hx] at G1
         rw [hy] at G2
         obtain ⟨d, hd⟩ : ∃ d : UInt8, UInt8.ofNat (x * 16 + y) = d := ⟨_, rfl⟩
         have hdn : d.toNat = x * 16 + y := by rw [← hd]; simp; omega
         have hdi : 16 * (x : Int) + (y : Int) = (d.toNat : Int) := by omega
         have hdl : (d.toNat : Int) ≤ 255 := by omega
         have hd0 : 0 ≤ (d.toNat : Int) := by omega
         rw [hd] at hv
         have HV := Lib.hid (show quotAt s.data.toList (i + 1) [] = quotAt s.data.toList (k + 1 + 3) (b ++ [d]) from hv)
         have hx0 : 0 ≤ (x : Int) := by omega
         have hy0 : 0 ≤ (y : Int) := by omega
         clear hv hes hx hy hd hdn q1 q2 q3 q4 q5
         go_wp2_with fail
         refine H1.out.mono ?_
         rintro e w3 ⟨rfl, rfl⟩
         go_wp2_with fail
         refine H2.out.mono ?_
         rintro e w3 ⟨rfl, rfl⟩
         go_wp2_with fail
         refine H3.out.mono ?_
         rintro e w3 ⟨rfl, rfl⟩
         go_wp2_with fail
         refine H4.out.mono ?_
         rintro e w3 ⟨rfl, rfl⟩
         go_wp2_with fail
         refine H5.out.mono ?_
         rintro e w3 ⟨rfl, rfl⟩
         go_wp2_with fail
         refine G1.out.mono ?_
         rintro e w3 ⟨rfl, rfl⟩
         go_wp2_with fail
         refine G2.out.mono ?_
         rintro e w3 ⟨rfl, rfl⟩
         go_wp2_with fail
         refine G1.out.mono ?_
         rintro e w3 ⟨rfl, rfl⟩
         go_wp2_with fail
         refine G2.out.mono ?_
         rintro e w3 ⟨rfl, rfl⟩
         go_wp2_with (at_builtin; go_must (refine wpList_append_one (cs := bc) rfl _ _ 62 rfl 5 i0 _ 1 Tryz.underlying62 hi5 hz0 hz1 hz2 rfl (by decide) bc_len bc_one w3 w.heap.size w3.heap.size _ b d _ (by simp [bc]) (by rfl) (by rfl) rfl HIB.out (by unfold maxLen; omega) (by omega) HBE.out.size ?_); intro v' w2 hown' hgrow hat; obtain ⟨ao, n', cap, rfl⟩ := own_slice hown'; have HO2 := Lib.hid hown'; have HB2 := Lib.hid (below_grown HBE.out HIB.out HBE.out.size hgrow); clear hown' hgrow hat)
         go_roundw
         case rel => exact ⟨k + 1 + 3, b ++ [d], by omega, by go_num, by simp; omega, HV.out, HO2.out, HB2.out⟩
         case measure => simp only [intOf]; omega
       · rw [hes] at hv
         have HV := Lib.hid (show quotAt s.data.toList (i + 1) [] = none from hv)
         rw [show k + 1 + 1 = k + 2 by omega] at hx
         clear hv hes q1 q2 q3 q4 q5
         go_wp2_with fail
         refine H1.out.mono ?_
         rintro e w3 ⟨rfl, rfl⟩
         go_wp2_with fail
         refine H2.out.mono ?_
         rintro e w3 ⟨rfl, rfl⟩
         go_wp2_with fail
         refine H3.out.mono ?_
         rintro e w3 ⟨rfl, rfl⟩
         go_wp2_with fail
         refine H4.out.mono ?_
         rintro e w3 ⟨rfl, rfl⟩
         go_wp2_with fail
         refine H5.out.mono ?_
         rintro e w3 ⟨rfl, rfl⟩
         go_wp2_with fail
         refine G1.out.mono ?_
         rintro e w3 ⟨rfl, rfl⟩
         go_wp2_with fail
         go_ret2
         exact ⟨by rw [HV.out]; rfl, HBE.out⟩
       · rw [hes] at hv
         have HV := Lib.hid (show quotAt s.data.toList (i + 1) [] = none from hv)
         rw [show k + 1 + 1 = k + 2 by omega] at hx
         rw [show k + 1 + 2 = k + 3 by omega] at hy
         rw [hx] at G1
         have hx0 : 0 ≤ (x : Int) := by omega
         clear hv hes hx q1 q2 q3 q4 q5
         go_wp2_with fail
         refine H1.out.mono ?_
         rintro e w3 ⟨rfl, rfl⟩
         go_wp2_with fail
         refine H2.out.mono ?_
         rintro e w3 ⟨rfl, rfl⟩
         go_wp2_with fail
         refine H3.out.mono ?_
         rintro e w3 ⟨rfl, rfl⟩
         go_wp2_with fail
         refine H4.out.mono ?_
         rintro e w3 ⟨rfl, rfl⟩
         go_wp2_with fail
         refine H5.out.mono ?_
         rintro e w3 ⟨rfl, rfl⟩
         go_wp2_with fail
         refine G1.out.mono ?_
         rintro e w3 ⟨rfl, rfl⟩
         go_wp2_with fail
         refine G2.out.mono ?_
         rintro e w3 ⟨rfl, rfl⟩
         go_wp2_with fail
         go_ret2
         exact ⟨by rw [HV.out]; rfl, HBE.out⟩
end
end Go.Proofs.YtclbmmiedihepaaGreatDoor
