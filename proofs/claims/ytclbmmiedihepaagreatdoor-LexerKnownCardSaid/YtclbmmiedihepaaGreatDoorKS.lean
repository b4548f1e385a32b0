/- What the lexer makes of three float literals: their errors. What the law LexerKnown calls: told and fails, and its texts' tokens. The law LexerKnown, walked. -/
import Derived.Test.YtclbmmiedihepaaGreatDoorRL
namespace Go.Proofs.YtclbmmiedihepaaGreatDoor
section
open Go.RowKit
set_option linter.unusedVariables false
set_option linter.unusedSimpArgs false
theorem run_end {P : Program} {m a b : Machine} {n k : Nat} {oa : Outcome} {wa : World} (h1 : runN P n m = .next a) (h2 : runN P k m = .next b) (ha : step P a = .ended oa wa) (hnk : n ≤ k) : a = b := by
 obtain ⟨d, rfl⟩ : ∃ d, k = n + d := ⟨k - n, by omega⟩
 rw [runN_add, h1] at h2
 cases d with
 | zero => simpa [runN] using h2
 | succ d => simp [runN, ha] at h2
/-- Two contracts of one call tell the same ending. -/
theorem calls_det {P : Program} {f : FuncId} {args : Array Value} {w : World} {R1 R2 : Ending → World → Prop} (hi : P.inits.idxOf? f = none) (h1 : Calls P f args w R1) (h2 : Calls P f args w R2)
  (r1 : ∀ e w', R1 e w' → ∃ v, e = .returned v) (r2 : ∀ e w', R2 e w' → ∃ v, e = .returned v) : ∃ v w1 w2, R1 (.returned v) w1 ∧ R2 (.returned v) w2 := by
 obtain ⟨e1, w1, fr1, hR1, hC1, hf1, hl1⟩ := h1 []
 obtain ⟨e2, w2, fr2, hR2, hC2, hf2, hl2⟩ := h2 []
 obtain ⟨v1, rfl⟩ := r1 _ _ hR1
 obtain ⟨v2, rfl⟩ := r2 _ _ hR2
 obtain ⟨n1, hn1⟩ := hC1
 obtain ⟨n2, hn2⟩ := hC2
 have s1 := step_leave_done hl1 (by rw [hf1]; exact hi)
 have s2 := step_leave_done hl2 (by rw [hf2]; exact hi)
 have hM : lone fr1 [] w1 = lone fr2 [] w2 := by
  rcases Nat.le_total n1 n2 with h | h
  · exact run_end hn1 hn2 s1 h
  · exact (run_end hn2 hn1 s2 h).symm
 rw [hM, s2] at s1
 injection s1 with s3 s4
 injection s3 with s3
 subst s3
 exact ⟨v2, w1, w2, hR1, hR2⟩
theorem eFv_of (s : ByteArray) (hs : s.size ≤ 1000000) (w : World) {f : Nat} {er : Int} (h : Calls Tryz.prog 62 #[.string s] w fun e w2 => e = .returned (.tuple #[.int .u64 f, .int .i64 er]) ∧ Below w.heap.size w w2) : eFv s.data.toList = er := by
 obtain ⟨g, _, hg⟩ := eFv_is s hs
 obtain ⟨v, w1, w2, ⟨a1, _⟩, ⟨a2, _⟩⟩ := calls_det (by kernel_rfl) (hg w) h (fun e w' h => ⟨_, h.1⟩) (fun e w' h => ⟨_, h.1⟩)
 rw [a1] at a2
 simp only [Ending.returned.injEq, Value.tuple.injEq] at a2
 have := congrArg (fun a => a.toList[1]?) a2
 simp at this
 exact this
theorem hall_of (s : ByteArray) {x u r : List UInt8} (h : Head s.data.toList x (u ++ r)) : (s.extract 0 x.length ++ s.extract (x.length + 1) (x.length + 1 + u.length)).data.toList = x ++ u := by
 rw [all_list, h.1, List.take_left]
 congr 1
 rw [show x ++ 46 :: (u ++ r) = (x ++ 46 :: u) ++ r by simp, List.take_append_of_le_length (by simp; omega), List.take_of_length_le (by simp; omega), List.drop_append, List.drop_eq_nil_of_le (by omega), show x.length + 1 - x.length = 1 by omega]
 rfl
theorem lit_end (s : ByteArray) (x u : List UInt8) (K : Nat) (hK : K = 1074) (hs : s.size ≤ 60) (h : Head s.data.toList x (u ++ [])) (hu0 : u ≠ []) (hu : ∀ c ∈ u, isDig c = true) (w : World) (hv : rd10 (valD 0 (x ++ u)) (0 - u.length) K ≠ 9218868437227405312) : eFv s.data.toList = 0 := by
 obtain ⟨c0, H⟩ := head_facts h
 have hb0 : u.length ≠ 0 := by have := List.length_pos_iff.2 hu0; omega
 have hsz := H.size
 rw [List.length_append] at hsz
 have hall := hall_of s h
 have hAs : (s.extract 0 x.length ++ s.extract (x.length + 1) (x.length + 1 + u.length)).size ≤ 59 := by
  rw [← lsz, hall, List.length_append]; omega
 have hdig : ∀ c ∈ (s.extract 0 x.length ++ s.extract (x.length + 1) (x.length + 1 + u.length)).data.toList, isDig c = true := by
  rw [hall]
  intro c hc
  rcases List.mem_append.1 hc with hc | hc
  · exact H.digs c hc
  · exact hu c hc
 have hV : valD 0 (s.extract 0 x.length ++ s.extract (x.length + 1) (x.length + 1 + u.length)).data.toList = valD 0 (x ++ u) := by rw [hall]
 have hP := parts_facts H hu (.inl rfl)
 have h3 := ref16_n s _ _ _ _ _ _ _ _ _ K 0 w hK hs c0 46 H.dig H.pos H.get0 H.z H.lt H.dot rfl rfl hP.run hb0 rfl hP.le hP.rest mkB_nil rfl rfl rfl rfl hAs hdig hV (by decide) (by decide)
 rw [if_neg hv] at h3
 exact eFv_of s (by omega) w h3
theorem lit_pow (s : ByteArray) (x u t : List UInt8) (q K : Nat) (hK : K = 1074) (hs : s.size ≤ 60) (h : Head s.data.toList x (u ++ 101 :: t)) (hu0 : u ≠ []) (hu : ∀ c ∈ u, isDig c = true) (hq : ExpQ t q) (ho : ExpOk t q) (w : World)
  (hv : rd10 (valD 0 (x ++ u)) (expX t q - u.length) K ≠ 9218868437227405312) : eFv s.data.toList = 0 := by
 obtain ⟨c0, H⟩ := head_facts h
 have hb0 : u.length ≠ 0 := by have := List.length_pos_iff.2 hu0; omega
 have hsz := H.size
 rw [List.length_append] at hsz
 have hall := hall_of s h
 have hAs : (s.extract 0 x.length ++ s.extract (x.length + 1) (x.length + 1 + u.length)).size ≤ 59 := by
  rw [← lsz, hall, List.length_append]; omega
 have hdig : ∀ c ∈ (s.extract 0 x.length ++ s.extract (x.length + 1) (x.length + 1 + u.length)).data.toList, isDig c = true := by
  rw [hall]
  intro c hc
  rcases List.mem_append.1 hc with hc | hc
  · exact H.digs c hc
  · exact hu c hc
 have hV : valD 0 (s.extract 0 x.length ++ s.extract (x.length + 1) (x.length + 1 + u.length)).data.toList = valD 0 (x ++ u) := by rw [hall]
 have hP := parts_facts H hu (.inr ⟨101, t, rfl, by decide⟩)
 have hr := expX_range ho
 have hR0 : 0 < (mkB (101 :: t)).size := by rw [mkB_size]; simp
 have h3 := ref16_e s _ _ _ _ _ _ _ _ _ K (expX t q) w hK hs c0 46 H.dig H.pos H.get0 H.z H.lt H.dot rfl rfl hP.run hb0 rfl hP.le hP.rest hR0 (mkB_get hR0 rfl) _ (mkB_drop _ _ _ rfl) (exp_good t q hq ho) rfl rfl rfl hAs hdig hV hr.1 hr.2
 rw [if_neg hv] at h3
 exact eFv_of s (by omega) w h3
theorem rd_15 (K : Nat) (hK : K = 1074) : rd10 15 (-1) K ≠ 9218868437227405312 := by
 subst hK; decide +kernel
theorem rd_1500 (K : Nat) (hK : K = 1074) : rd10 15 2 K ≠ 9218868437227405312 := by
 subst hK; decide +kernel
theorem ef_1_5 (w : World) : eFv [49, 46, 53] = 0 := by
 obtain ⟨K, hK⟩ : ∃ K, K = 1074 := ⟨_, rfl⟩
 exact lit_end ⟨#[49, 46, 53]⟩ [49] [53] K hK (by decide) ⟨rfl, by rfl⟩ (by simp) (by decide) w (rd_15 K hK)
theorem ef_1_5e3 (w : World) : eFv [49, 46, 53, 101, 51] = 0 := by
 obtain ⟨K, hK⟩ : ∃ K, K = 1074 := ⟨_, rfl⟩
 exact lit_pow ⟨#[49, 46, 53, 101, 51]⟩ [49] [53] [51] 0 K hK (by decide) ⟨rfl, by rfl⟩ (by simp) (by decide) (.inl ⟨rfl, by decide, by decide⟩) ⟨by decide, by decide, by decide⟩ w (rd_1500 K hK)
theorem ef_bad (w : World) : eFv [49, 46, 53, 101, 48, 48, 48, 49] = 4 := by
 have hno : ¬ TailOk [101, 48, 48, 48, 49] := by
  rintro (h | ⟨t, q, h1, h2, h3⟩)
  · cases h
  · cases h1
    have := h3.2.1
    rcases h2 with ⟨rfl, _⟩ | ⟨_, h⟩ | ⟨_, h⟩
    · simp at this
    · simp at h
    · simp at h
 have h := ref16_bad ⟨#[49, 46, 53, 101, 48, 48, 48, 49]⟩ (by decide) (x := [49]) (u := [53]) (r := [101, 48, 48, 48, 49]) ⟨rfl, by rfl⟩ (by simp) (by decide) (.bad ⟨[48, 48, 48, 49], 0, rfl, by simp, .inl ⟨rfl, by decide, by decide⟩, by decide, .inr (.inl (by decide))⟩) hno
 exact eFv_of ⟨#[49, 46, 53, 101, 48, 48, 48, 49]⟩ (by decide) w (h w)
end

section
open Go.RowKit
set_option linter.unusedVariables false
set_option linter.unusedSimpArgs false
def toldV : List Tk → BL
 | [] => []
 | t :: l => (if t.kind = 7 ∧ t.text = [] then [35, 32] else t.text ++ [32]) ++ toldV l
theorem told_snoc : ∀ (l : List Tk) (t : Tk), toldV (l ++ [t]) = toldV l ++ (if t.kind = 7 ∧ t.text = [] then [35, 32] else t.text ++ [32])
 | [], t => by simp [toldV]
 | u :: l, t => by rw [List.cons_append, toldV, told_snoc l t, toldV, List.append_assoc]
theorem told_take {l : List Tk} {k : Nat} {t : Tk} (h : l[k]? = some t) : toldV (l.take (k + 1)) = toldV (l.take k) ++ (if t.kind = 7 ∧ t.text = [] then [35, 32] else t.text ++ [32]) := by
 rw [List.take_add_one, h]; exact told_snoc _ _
theorem told_len : ∀ (l : List Tk) (k : Nat), (toldV (l.take k)).length ≤ (toldV l).length
 | [], k => by simp [toldV]
 | t :: l, 0 => by simp [toldV]
 | t :: l, k + 1 => by
  rw [List.take_succ_cons, toldV, toldV, List.length_append, List.length_append]
  have := told_len l k; omega
theorem toBA_app (x y : BL) : toBA x ++ toBA y = toBA (x ++ y) := by
 apply ByteArray.ext
 simp [toBA]
set_option maxRecDepth 100000 in
set_option maxHeartbeats 3200000 in
theorem ltold (s : ByteArray) (l : List Tk) (w : World) (hG : LexG w) (htv : tokensV s.data.toList = .ok l) (hl : l.length ≤ 1000) (ho : (toldV l).length ≤ 1000) :
  Calls Tryz.prog 22 #[.string s] w fun e w' => e = .returned (.string (toBA (toldV l))) ∧ Below w.heap.size w w' := by
 have HT := Lib.hid (tokens_yes s w hG htv)
 have HOL := Lib.hid ho
 clear htv ho hG
 go_enter Tryz.func22, Tryz.ntmps22
 go_wp2_with fail
 refine HT.out.mono ?_
 rintro e w2 ⟨⟨v, rfl, hown⟩, hb2⟩
 obtain ⟨A, cap, rfl, hcell⟩ := own_all hown
 have HL := Lib.hid hcell
 have HB2 := Lib.hid hb2
 clear hown hcell hb2
 go_wp2_with fail
 go_loopw [6, 7] (fun av iv wr => ∃ k : Nat, k ≤ l.length ∧ av = .string (toBA (toldV (l.take k))) ∧ iv = .int .i64 k ∧ wr = w2) (fun _ iv _ => l.length - (intOf iv).toNat)
 case atStart => exact ⟨0, Nat.zero_le _, rfl, rfl, rfl⟩
 case round =>
  obtain ⟨k, hk, rfl, rfl, rfl⟩ := hrel
  have hbd : (toBA (toldV (l.take k))).size ≤ 1000 := by have := told_len l k; have := HOL.out; rw [toBA_size]; omega
  by_cases hlt : k < l.length
  case neg =>
   have hlt2 : ¬ (k : Int) < (l.length : Int) := by omega
   rw [List.take_of_length_le (by omega)] at hbd ⊢
   go_wp2_with fail
   go_ret
   exact ⟨rfl, HB2.out⟩
  have hlt2 : (k : Int) < (l.length : Int) := by omega
  have hk0 : (0 : Int) ≤ (k : Int) := by omega
  obtain ⟨y, hy⟩ : ∃ y, l[k]? = some y := ⟨_, List.getElem?_eq_getElem hlt⟩
  obtain ⟨g, rfl, hg, c0, c1, _, _⟩ := HL.out k y hy
  have hbd2 : (toBA (toldV (l.take (k + 1)))).size ≤ 1000 := by have := told_len l (k + 1); have := HOL.out; rw [toBA_size]; omega
  have hat := told_take hy
  obtain ⟨P, hP⟩ : ∃ P, toldV (l.take k) = P := ⟨_, rfl⟩
  rw [hP] at hat hbd ⊢
  by_cases h7 : y.kind = 7
  · rw [h7] at c0
    by_cases htx : y.text = []
    · rw [if_pos ⟨h7, htx⟩] at hat
      rw [htx] at c1
      have HR := Lib.hid (show toBA P ++ ⟨#[35, 32]⟩ = toBA (toldV (l.take (k + 1))) by rw [hat, ← toBA_app]; rfl)
      have hbl : (toBA P).size + 2 ≤ 1000 := by rw [hat, ← toBA_app, ByteArray.size_append] at hbd2; exact hbd2
      rw [show toBA [] = ⟨#[]⟩ from rfl] at c1
      clear hat hy h7 htx hbd2 hP
      generalize toBA P = PP at *
      go_wp2_with fail
      go_roundw
      case rel => exact ⟨k + 1, by omega, by rw [← HR.out], by go_num, trivial⟩
      case measure => simp only [intOf]; omega
    · rw [if_neg (fun h => htx h.2)] at hat
      have HR := Lib.hid (show toBA P ++ toBA y.text ++ ⟨#[32]⟩ = toBA (toldV (l.take (k + 1))) by rw [hat, ← toBA_app, ← toBA_app, ← ByteArray.append_assoc]; rfl)
      have hbl : (toBA P).size + ((toBA y.text).size + 1) ≤ 1000 := by rw [hat, ← toBA_app, ← toBA_app, ByteArray.size_append, ByteArray.size_append] at hbd2; exact hbd2
      have t0 : 0 < (toBA y.text).size := by rw [toBA_size]; exact List.length_pos_iff.2 htx
      have t1 := toList_ne t0
      have t3 : (toBA y.text).toList.isEmpty = false := by simpa using t1
      have t4 : ((toBA y.text).toList == []) = false := by simpa using t1
      clear hat hy h7 htx hbd2 hP
      generalize toBA P = PP at *
      generalize toBA y.text = tx at *
      go_wp2_with fail
      go_roundw
      case rel => exact ⟨k + 1, by omega, by rw [← HR.out], by go_num, trivial⟩
      case measure => simp only [intOf]; omega
  · rw [if_neg (fun h => h7 h.1)] at hat
    have HR := Lib.hid (show toBA P ++ toBA y.text ++ ⟨#[32]⟩ = toBA (toldV (l.take (k + 1))) by rw [hat, ← toBA_app, ← toBA_app, ← ByteArray.append_assoc]; rfl)
    have hbl : (toBA P).size + ((toBA y.text).size + 1) ≤ 1000 := by rw [hat, ← toBA_app, ← toBA_app, ByteArray.size_append, ByteArray.size_append] at hbd2; exact hbd2
    have b7 : ((y.kind : Int) == 7) = false := beq_eq_false_iff_ne.2 (by omega)
    clear hat hy h7 hbd2 hP
    generalize toBA P = PP at *
    generalize toBA y.text = tx at *
    generalize y.kind = kd at *
    go_wp2_with fail
    go_roundw
    case rel => exact ⟨k + 1, by omega, by rw [← HR.out], by go_num, trivial⟩
    case measure => simp only [intOf]; omega
theorem ltold2 (s out : ByteArray) (w : World) (hG : LexG w) (h : ∃ l, tokensV s.data.toList = .ok l ∧ l.length ≤ 1000 ∧ (toldV l).length ≤ 1000 ∧ toldV l = out.data.toList) :
  Calls Tryz.prog 22 #[.string s] w fun e w' => e = .returned (.string out) ∧ Below w.heap.size w w' := by
 obtain ⟨l, h1, h2, h3, h4⟩ := h
 have := ltold s l w hG h1 h2 h3
 rw [h4, toBA_eta] at this
 exact this
set_option maxRecDepth 100000 in
set_option maxHeartbeats 1600000 in
theorem lfails (s : ByteArray) (pl : Nat) (er : Int) (w : World) (hG : LexG w) (htv : tokensV s.data.toList = .error (pl, er)) :
  Calls Tryz.prog 23 #[.string s, .int .i64 (pl : Int), .int .i64 er] w fun e w' => e = .returned (.bool true) ∧ Below w.heap.size w w' := by
 have HT := Lib.hid (tokens_no s w hG htv)
 clear htv hG
 go_enter Tryz.func23, Tryz.ntmps23
 go_wp2_with fail
 refine HT.out.mono ?_
 rintro e w2 ⟨rfl, hb2⟩
 have HB2 := Lib.hid hb2
 clear hb2
 go_wp2_with fail
 go_ret
 exact ⟨rfl, HB2.out⟩
theorem lrep (c : UInt8) (n : Nat) (h2 : 2 ≤ n) (hn : n ≤ 100000) : ∃ R : ByteArray, R.data.toList = List.replicate n c ∧ R.size = n ∧ ∀ w, Calls Tryz.prog 24 #[.string ⟨#[c]⟩, .int .i64 (n : Int)] w fun e w' => e = .returned (.string R) ∧ Below w.heap.size w w' := by
 have hr : ∀ n, Lib.repeatL [c] n = List.replicate n c := by
  intro n
  induction n with
  | zero => rfl
  | succ n ih => first | (show [c] ++ Lib.repeatL [c] n = _; rw [ih]; rfl) | simp_all [Lib.repeatL, List.replicate_succ]
 refine ⟨⟨(Lib.repeatL [c] n).toArray⟩, by simp [hr], by show (Lib.repeatL [c] n).toArray.size = n; simp [hr], fun w => ?_⟩
 exact Tryz.strings_Repeat_main ⟨#[c]⟩ n w h2 (by omega) (by show 1 * n ≤ _; omega) (by show 0 < 1; omega)
theorem quot_run {L z : BL} : ∀ (k i : Nat) (b : BL), L.drop i = List.replicate k 97 ++ 34 :: z → quotAt L i b = some (b ++ List.replicate k 97, i + k + 1)
 | 0, i, b, h => by
  have hlt : i < L.length := by
   rcases Nat.lt_or_ge i L.length with h2 | h2
   · exact h2
   · rw [List.drop_of_length_le h2] at h; simp at h
  rw [List.drop_eq_getElem_cons hlt] at h
  have hc : L[i] = 34 := by simpa using (List.cons.inj h).1
  rw [quotAt, dif_pos hlt, hc, if_pos (by decide)]; simp
 | k + 1, i, b, h => by
  have hlt : i < L.length := by
   rcases Nat.lt_or_ge i L.length with h2 | h2
   · exact h2
   · rw [List.drop_of_length_le h2] at h; simp [List.replicate_succ] at h
  rw [List.drop_eq_getElem_cons hlt, List.replicate_succ, List.cons_append] at h
  have hc : L[i] = 97 := (List.cons.inj h).1
  rw [quotAt, dif_pos hlt, hc, if_neg (by decide), if_neg (by decide), if_neg (by decide), quot_run k (i + 1) (b ++ [97]) (List.cons.inj h).2]
  simp [List.replicate_succ]; omega
def qrep (n : Nat) : BL := 34 :: (List.replicate n 97 ++ [34])
theorem qrep_quot (n : Nat) : quotV (qrep n) = some (List.replicate n 97, n + 2) := by
 have e : quotV (qrep n) = quotAt (qrep n) 1 [] := by show (if (34 : UInt8).toNat = 34 then quotAt (qrep n) 1 [] else none) = _; rw [if_pos (by decide)]
 rw [e, quot_run (z := []) n 1 [] rfl]; simp; omega
theorem qrep_ok (n : Nat) : okV (qrep n) := okV_ascii (by
 intro c hc
 unfold qrep at hc
 simp only [List.mem_cons, List.mem_append, List.mem_replicate, List.not_mem_nil, or_false] at hc
 rcases hc with rfl | ⟨_, rfl⟩ | rfl <;> decide)
theorem qrep_len (n : Nat) : (qrep n).length = n + 2 := by simp [qrep]
theorem qrep_long (n : Nat) (h : 4096 < n) (h2 : n ≤ 60000) : tokensV (qrep n) = .error (0, 3) := by
 refine tokens_bad (by rw [qrep_len]; omega) (qrep_ok n) ?_
 have ht : takeV eFv (qrep n) = (3, 5, n + 2) := by
  have := take_quote (L := qrep n) (i := 0) rfl
  rw [List.drop_zero, qrep_quot] at this
  rw [this]; simp only [List.length_replicate]; rw [if_pos h]
 have hd : (qrep n).drop 0 = 34 :: (List.replicate n 97 ++ [34]) := rfl
 rw [lexV_cons hd, if_neg (by decide), if_neg (by decide), if_neg (by simp), show (34 :: (List.replicate n 97 ++ [34])) = qrep n from rfl, ht, if_neg (by simp)]
theorem qrep_value (n : Nat) : valueL (qrep n) = if 4096 < n then ([], 3) else (List.replicate n 97, 0) := by
 unfold valueL
 rw [qrep_quot]
 simp only
 rw [if_pos ⟨by rw [qrep_len], (valid_ok _ _ (Nat.le_refl _)).2 (qrep_ok n)⟩, List.length_replicate]
theorem rep_long (c : UInt8) (n : Nat) (h : 65536 < n) : tokensV (List.replicate n c) = .error (65536, 3) := by
 unfold tokensV; rw [if_pos (by rw [List.length_replicate]; exact h)]
theorem ltakeVal (s v : ByteArray) (er : Int) (w : World) (hs : s.size ≤ 1000000) (hU : U8T w) (h : valueL s.data.toList = (v.data.toList, er)) :
  Calls Tryz.prog 16 #[.string s] w fun e w' => e = .returned (.tuple #[.string v, .int .i64 er]) ∧ Below w.heap.size w w' := by
 have := lvalue s w hs hU
 rw [h] at this
 simp only [toBA_eta] at this
 exact this
theorem told_0 (w : World) : ∃ l, tokensV (⟨#[97, 46, 98, 60, 61, 99, 49]⟩ : ByteArray).data.toList = .ok l ∧ l.length ≤ 1000 ∧ (toldV l).length ≤ 1000 ∧ toldV l = (⟨#[97, 32, 46, 32, 98, 32, 60, 61, 32, 99, 49, 32, 35, 32]⟩ : ByteArray).data.toList :=
 ⟨_, tokens_of (by decide) (brkF_is 100 0 _ none (by rfl) rfl) (lexF_is (eG := fun _ => 0) 100 _ 0 [] none _ [] (by rfl) (by simp) rfl), by decide, by decide, by rfl⟩
theorem told_1 (w : World) : ∃ l, tokensV (⟨#[105, 102, 32, 120, 32, 123, 10, 125]⟩ : ByteArray).data.toList = .ok l ∧ l.length ≤ 1000 ∧ (toldV l).length ≤ 1000 ∧ toldV l = (⟨#[105, 102, 32, 120, 32, 123, 32, 125, 32, 35, 32]⟩ : ByteArray).data.toList :=
 ⟨_, tokens_of (by decide) (brkF_is 100 0 _ none (by rfl) rfl) (lexF_is (eG := fun _ => 0) 100 _ 0 [] none _ [] (by rfl) (by simp) rfl), by decide, by decide, by rfl⟩
theorem told_2 (w : World) : ∃ l, tokensV (⟨#[49, 46, 53, 101, 51, 32, 49, 101, 53, 32, 49, 46, 120, 32, 49, 46, 53, 101]⟩ : ByteArray).data.toList = .ok l ∧ l.length ≤ 1000 ∧ (toldV l).length ≤ 1000 ∧ toldV l = (⟨#[49, 46, 53, 101, 51, 32, 49, 32, 101, 53, 32, 49, 32, 46, 32, 120, 32, 49, 46, 53, 32, 101, 32, 35, 32]⟩ : ByteArray).data.toList :=
 ⟨_, tokens_of (by decide) (brkF_is 100 0 _ none (by rfl) rfl) (lexF_is (eG := fun _ => 0) 100 _ 0 [] none _ [[49, 46, 53, 101, 51], [49, 46, 53]] (by rfl) (by simp [ef_1_5e3 w, ef_1_5 w]) rfl), by decide, by decide, by rfl⟩
theorem told_3 (w : World) : ∃ l, tokensV (⟨#[]⟩ : ByteArray).data.toList = .ok l ∧ l.length ≤ 1000 ∧ (toldV l).length ≤ 1000 ∧ toldV l = (⟨#[]⟩ : ByteArray).data.toList :=
 ⟨_, tokens_of (by decide) (brkF_is 100 0 _ none (by rfl) rfl) (lexF_is (eG := fun _ => 0) 100 _ 0 [] none _ [] (by rfl) (by simp) rfl), by decide, by decide, by rfl⟩
theorem told_4 (w : World) : ∃ l, tokensV (⟨#[10, 59, 10]⟩ : ByteArray).data.toList = .ok l ∧ l.length ≤ 1000 ∧ (toldV l).length ≤ 1000 ∧ toldV l = (⟨#[59, 32]⟩ : ByteArray).data.toList :=
 ⟨_, tokens_of (by decide) (brkF_is 100 0 _ none (by rfl) rfl) (lexF_is (eG := fun _ => 0) 100 _ 0 [] none _ [] (by rfl) (by simp) rfl), by decide, by decide, by rfl⟩
theorem told_5 (w : World) : ∃ l, tokensV (⟨#[102, 40, 41, 32, 105, 110, 116, 10, 114, 101, 116, 117, 114, 110, 10, 118, 97, 114, 10, 120, 44, 10, 33, 116, 114, 117, 101]⟩ : ByteArray).data.toList = .ok l ∧ l.length ≤ 1000 ∧ (toldV l).length ≤ 1000 ∧ toldV l = (⟨#[102, 32, 40, 32, 41, 32, 105, 110, 116, 32, 35, 32, 114, 101, 116, 117, 114, 110, 32, 35, 32, 118, 97, 114, 32, 120, 32, 44, 32, 33, 32, 116, 114, 117, 101, 32, 35, 32]⟩ : ByteArray).data.toList :=
 ⟨_, tokens_of (by decide) (brkF_is 100 0 _ none (by rfl) rfl) (lexF_is (eG := fun _ => 0) 100 _ 0 [] none _ [] (by rfl) (by simp) rfl), by decide, by decide, by rfl⟩
theorem told_6 (w : World) : ∃ l, tokensV (⟨#[97, 32, 47, 47, 32, 98, 10, 47, 47, 32, 99, 10, 47, 32, 100]⟩ : ByteArray).data.toList = .ok l ∧ l.length ≤ 1000 ∧ (toldV l).length ≤ 1000 ∧ toldV l = (⟨#[97, 32, 35, 32, 47, 32, 100, 32, 35, 32]⟩ : ByteArray).data.toList :=
 ⟨_, tokens_of (by decide) (brkF_is 100 0 _ none (by rfl) rfl) (lexF_is (eG := fun _ => 0) 100 _ 0 [] none _ [] (by rfl) (by simp) rfl), by decide, by decide, by rfl⟩
theorem told_7 (w : World) : ∃ l, tokensV (⟨#[38, 38, 124, 124, 61, 61, 61, 33, 61, 61, 58, 61, 58]⟩ : ByteArray).data.toList = .ok l ∧ l.length ≤ 1000 ∧ (toldV l).length ≤ 1000 ∧ toldV l = (⟨#[38, 38, 32, 124, 124, 32, 61, 61, 32, 61, 32, 33, 61, 32, 61, 32, 58, 61, 32, 58, 32]⟩ : ByteArray).data.toList :=
 ⟨_, tokens_of (by decide) (brkF_is 100 0 _ none (by rfl) rfl) (lexF_is (eG := fun _ => 0) 100 _ 0 [] none _ [] (by rfl) (by simp) rfl), by decide, by decide, by rfl⟩
theorem told_8 (w : World) : ∃ l, tokensV (⟨#[120, 45, 45, 121]⟩ : ByteArray).data.toList = .ok l ∧ l.length ≤ 1000 ∧ (toldV l).length ≤ 1000 ∧ toldV l = (⟨#[120, 32, 45, 32, 45, 32, 121, 32, 35, 32]⟩ : ByteArray).data.toList :=
 ⟨_, tokens_of (by decide) (brkF_is 100 0 _ none (by rfl) rfl) (lexF_is (eG := fun _ => 0) 100 _ 0 [] none _ [] (by rfl) (by simp) rfl), by decide, by decide, by rfl⟩
theorem fail_0 (w : World) : tokensV (⟨#[48, 48, 55]⟩ : ByteArray).data.toList = .error (0, 4) := tokens_bad (by decide) (brkF_is 100 0 _ none (by rfl) rfl) (lexF_is (eG := fun _ => 0) 100 _ 0 [] none _ [] (by kernel_rfl) (by simp) rfl)
theorem fail_1 (w : World) : tokensV (⟨#[57, 50, 50, 51, 51, 55, 50, 48, 51, 54, 56, 53, 52, 55, 55, 53, 56, 48, 56]⟩ : ByteArray).data.toList = .error (0, 3) := tokens_bad (by decide) (brkF_is 100 0 _ none (by rfl) rfl) (lexF_is (eG := fun _ => 0) 100 _ 0 [] none _ [] (by kernel_rfl) (by simp) rfl)
theorem fail_2 (w : World) : tokensV (⟨#[49, 46, 53, 101, 48, 48, 48, 49]⟩ : ByteArray).data.toList = .error (0, 4) := tokens_bad (by decide) (brkF_is 100 0 _ none (by rfl) rfl) (lexF_is (eG := fun _ => 4) 100 _ 0 [] none _ [[49, 46, 53, 101, 48, 48, 48, 49]] (by rfl) (by simp [ef_bad w]) rfl)
theorem fail_3 (w : World) : tokensV (⟨#[95]⟩ : ByteArray).data.toList = .error (0, 9) := tokens_bad (by decide) (brkF_is 100 0 _ none (by rfl) rfl) (lexF_is (eG := fun _ => 0) 100 _ 0 [] none _ [] (by kernel_rfl) (by simp) rfl)
theorem fail_5 (w : World) : tokensV (⟨#[34, 97]⟩ : ByteArray).data.toList = .error (0, 4) := tokens_bad (by decide) (brkF_is 100 0 _ none (by rfl) rfl) (lexF_is (eG := fun _ => 0) 100 _ 0 [] none _ [] (by kernel_rfl) (by simp) rfl)
theorem fail_6 (w : World) : tokensV (⟨#[38]⟩ : ByteArray).data.toList = .error (0, 4) := tokens_bad (by decide) (brkF_is 100 0 _ none (by rfl) rfl) (lexF_is (eG := fun _ => 0) 100 _ 0 [] none _ [] (by kernel_rfl) (by simp) rfl)
theorem fail_7 (w : World) : tokensV (⟨#[120, 1]⟩ : ByteArray).data.toList = .error (1, 4) := tokens_bad (by decide) (brkF_is 100 0 _ none (by rfl) rfl) (lexF_is (eG := fun _ => 0) 100 _ 0 [] none _ [] (by kernel_rfl) (by simp) rfl)
theorem fail_8 (w : World) : tokensV (⟨#[120, 32, 47, 47, 32, 255]⟩ : ByteArray).data.toList = .error (5, 8) := tokens_utf (by decide) (brkF_is 100 0 _ (some 5) (by rfl) rfl)
theorem fail_9 (w : World) : tokensV (⟨#[34, 92, 120, 65, 66, 34]⟩ : ByteArray).data.toList = .error (0, 4) := tokens_bad (by decide) (brkF_is 100 0 _ none (by rfl) rfl) (lexF_is (eG := fun _ => 0) 100 _ 0 [] none _ [] (by kernel_rfl) (by simp) rfl)
theorem fail_10 (w : World) : tokensV (⟨#[34, 97, 10, 34]⟩ : ByteArray).data.toList = .error (0, 4) := tokens_bad (by decide) (brkF_is 100 0 _ none (by rfl) rfl) (lexF_is (eG := fun _ => 0) 100 _ 0 [] none _ [] (by kernel_rfl) (by simp) rfl)
theorem fail_11 (w : World) : tokensV (⟨#[120, 32, 195, 169]⟩ : ByteArray).data.toList = .error (2, 4) := tokens_bad (by decide) (brkF_is 100 0 _ none (by rfl) rfl) (lexF_is (eG := fun _ => 0) 100 _ 0 [] none _ [] (by kernel_rfl) (by simp) rfl)
theorem fail_41 : tokensV (List.replicate 41 97) = .error (0, 3) := tokens_bad (by decide) (okV_ascii (by decide)) (lexF_is (eG := fun _ => 0) 100 _ 0 [] none _ [] (by rfl) (by simp) rfl)
theorem val_0 : valueL [34, 97, 92, 110, 92, 120, 52, 49, 34] = ([97, 10, 65], 0) := by unfold valueL quotV; simp only; rw [if_pos (by decide), quotF_is 50 _ 1 [] (some ([97, 10, 65], 9)) (by rfl)]; simp only; rw [if_pos ⟨by decide, (valid_ok _ _ (Nat.le_refl _)).2 (brkF_is 50 0 _ none (by rfl) rfl)⟩, if_neg (by decide)]
theorem val_1 : valueL [34, 195, 169, 92, 116, 92, 92, 92, 34, 92, 120, 102, 102, 34] = ([195, 169, 9, 92, 34, 255], 0) := by unfold valueL quotV; simp only; rw [if_pos (by decide), quotF_is 50 _ 1 [] (some ([195, 169, 9, 92, 34, 255], 14)) (by rfl)]; simp only; rw [if_pos ⟨by decide, (valid_ok _ _ (Nat.le_refl _)).2 (brkF_is 50 0 _ none (by rfl) rfl)⟩, if_neg (by decide)]
theorem val_2 : valueL [34, 97, 34, 32] = ([], 4) := by unfold valueL quotV; simp only; rw [if_pos (by decide), quotF_is 50 _ 1 [] (some ([97], 3)) (by rfl)]; simp only; rw [if_neg (by simp)]
theorem val_3 : valueL [97] = ([], 4) := by unfold valueL; rw [quotV_head (by decide)]
end

section
open Go.RowKit
set_option linter.unusedVariables false
set_option linter.unusedSimpArgs false
set_option maxRecDepth 100000 in
set_option maxHeartbeats 64000000 in
theorem lawKnown (w : World) (hG : LexG w) : Calls Tryz.prog 8 #[] w fun e w' => e = .returned (.bool true) ∧ Below w.heap.size w w' := by
 have HG := Lib.hid hG
 have HB0 := Lib.hid (Below.refl w.heap.size w)
 obtain ⟨R41, l41, s41, h41⟩ := lrep 97 41 (by decide) (by decide)
 obtain ⟨R40, l40, s40, h40⟩ := lrep 97 40 (by decide) (by decide)
 obtain ⟨RS, lS, sS, hS⟩ := lrep 32 65537 (by decide) (by decide)
 obtain ⟨R97, l97, s97, h97⟩ := lrep 97 4097 (by decide) (by decide)
 obtain ⟨R96, l96, s96, h96⟩ := lrep 97 4096 (by decide) (by decide)
 have H41 := Lib.hid (show ∀ w, Calls Tryz.prog 24 #[.string ⟨#[97]⟩, .int .i64 41] w fun e w' => e = .returned (.string R41) ∧ Below w.heap.size w w' from h41)
 have H40 := Lib.hid (show ∀ w, Calls Tryz.prog 24 #[.string ⟨#[97]⟩, .int .i64 40] w fun e w' => e = .returned (.string R40) ∧ Below w.heap.size w w' from h40)
 have HS := Lib.hid (show ∀ w, Calls Tryz.prog 24 #[.string ⟨#[32]⟩, .int .i64 65537] w fun e w' => e = .returned (.string RS) ∧ Below w.heap.size w w' from hS)
 have H97 := Lib.hid (show ∀ w, Calls Tryz.prog 24 #[.string ⟨#[97]⟩, .int .i64 4097] w fun e w' => e = .returned (.string R97) ∧ Below w.heap.size w w' from h97)
 have H96 := Lib.hid (show ∀ w, Calls Tryz.prog 24 #[.string ⟨#[97]⟩, .int .i64 4096] w fun e w' => e = .returned (.string R96) ∧ Below w.heap.size w w' from h96)
 obtain ⟨Q97, hQ97⟩ : ∃ Q, (⟨#[34]⟩ : ByteArray) ++ R97 ++ ⟨#[34]⟩ = Q := ⟨_, rfl⟩
 obtain ⟨Q96, hQ96⟩ : ∃ Q, (⟨#[34]⟩ : ByteArray) ++ R96 ++ ⟨#[34]⟩ = Q := ⟨_, rfl⟩
 have LQ97 := Lib.hid (show Q97.data.toList = qrep 4097 by rw [← hQ97]; simp [l97, qrep])
 have LQ96 := Lib.hid (show Q96.data.toList = qrep 4096 by rw [← hQ96]; simp [l96, qrep])
 have zQ97 : Q97.size = 4099 := by show Q97.data.toList.length = _; rw [LQ97.out, qrep_len]
 have zQ96 : Q96.size = 4098 := by show Q96.data.toList.length = _; rw [LQ96.out, qrep_len]
 have HF41 := Lib.hid (fun w h => lfails R41 0 3 w h (by rw [l41]; exact fail_41))
 have HFS := Lib.hid (fun w h => lfails RS 65536 3 w h (by rw [lS]; exact rep_long 32 65537 (by decide)))
 have HF97 := Lib.hid (fun w h => lfails Q97 0 3 w h (by rw [LQ97.out]; exact qrep_long 4097 (by decide) (by decide)))
 have HV96 := Lib.hid (fun w h => ltakeVal Q96 R96 0 w (by omega) h (by rw [LQ96.out, qrep_value, if_neg (by decide), l96]))
 have HV97 := Lib.hid (fun w h => ltakeVal Q97 ⟨#[]⟩ 3 w (by omega) h (by rw [LQ97.out, qrep_value, if_pos (by decide)]))
 have HN40 := Lib.hid (fun w => lName R40 w (by omega))
 have HN41 := Lib.hid (fun w => lName R41 w (by omega))
 rw [l40, show nameV (List.replicate 40 97) = true by rfl] at HN40
 rw [l41, show nameV (List.replicate 41 97) = false by rfl] at HN41
 clear hG h41 h40 hS h97 h96 l41 l40 lS l97 l96
 go_enter Tryz.func8, Tryz.ntmps8
 go_wp2_with fail
 refine (ltold2 _ ⟨#[97, 32, 46, 32, 98, 32, 60, 61, 32, 99, 49, 32, 35, 32]⟩ _ (HG.out.below HB0.out) (told_0 w)).mono ?_
 rintro e w1 ⟨rfl, hb⟩
 have HB1 := Lib.hid (below_then HB0.out hb)
 clear hb
 go_wp2_with fail
 refine (ltold2 _ ⟨#[105, 102, 32, 120, 32, 123, 32, 125, 32, 35, 32]⟩ _ (HG.out.below HB1.out) (told_1 w)).mono ?_
 rintro e w2 ⟨rfl, hb⟩
 have HB2 := Lib.hid (below_then HB1.out hb)
 clear hb
 go_wp2_with fail
 refine (ltold2 _ ⟨#[49, 46, 53, 101, 51, 32, 49, 32, 101, 53, 32, 49, 32, 46, 32, 120, 32, 49, 46, 53, 32, 101, 32, 35, 32]⟩ _ (HG.out.below HB2.out) (told_2 w)).mono ?_
 rintro e w3 ⟨rfl, hb⟩
 have HB3 := Lib.hid (below_then HB2.out hb)
 clear hb
 go_wp2_with fail
 refine (ltold2 _ ⟨#[]⟩ _ (HG.out.below HB3.out) (told_3 w)).mono ?_
 rintro e w4 ⟨rfl, hb⟩
 have HB4 := Lib.hid (below_then HB3.out hb)
 clear hb
 go_wp2_with fail
 refine (ltold2 _ ⟨#[59, 32]⟩ _ (HG.out.below HB4.out) (told_4 w)).mono ?_
 rintro e w5 ⟨rfl, hb⟩
 have HB5 := Lib.hid (below_then HB4.out hb)
 clear hb
 go_wp2_with fail
 refine (ltold2 _ ⟨#[102, 32, 40, 32, 41, 32, 105, 110, 116, 32, 35, 32, 114, 101, 116, 117, 114, 110, 32, 35, 32, 118, 97, 114, 32, 120, 32, 44, 32, 33, 32, 116, 114, 117, 101, 32, 35, 32]⟩ _ (HG.out.below HB5.out) (told_5 w)).mono ?_
 rintro e w6 ⟨rfl, hb⟩
 have HB6 := Lib.hid (below_then HB5.out hb)
 clear hb
 go_wp2_with fail
 refine (ltold2 _ ⟨#[97, 32, 35, 32, 47, 32, 100, 32, 35, 32]⟩ _ (HG.out.below HB6.out) (told_6 w)).mono ?_
 rintro e w7 ⟨rfl, hb⟩
 have HB7 := Lib.hid (below_then HB6.out hb)
 clear hb
 go_wp2_with fail
 refine (ltold2 _ ⟨#[38, 38, 32, 124, 124, 32, 61, 61, 32, 61, 32, 33, 61, 32, 61, 32, 58, 61, 32, 58, 32]⟩ _ (HG.out.below HB7.out) (told_7 w)).mono ?_
 rintro e w8 ⟨rfl, hb⟩
 have HB8 := Lib.hid (below_then HB7.out hb)
 clear hb
 go_wp2_with fail
 refine (ltold2 _ ⟨#[120, 32, 45, 32, 45, 32, 121, 32, 35, 32]⟩ _ (HG.out.below HB8.out) (told_8 w)).mono ?_
 rintro e w9 ⟨rfl, hb⟩
 have HB9 := Lib.hid (below_then HB8.out hb)
 clear hb
 go_wp2_with fail
 refine (lfails _ 0 4 _ (HG.out.below HB9.out) (fail_0 w)).mono ?_
 rintro e w10 ⟨rfl, hb⟩
 have HB10 := Lib.hid (below_then HB9.out hb)
 clear hb
 go_wp2_with fail
 refine (lfails _ 0 3 _ (HG.out.below HB10.out) (fail_1 w)).mono ?_
 rintro e w11 ⟨rfl, hb⟩
 have HB11 := Lib.hid (below_then HB10.out hb)
 clear hb
 go_wp2_with fail
 refine (lfails _ 0 4 _ (HG.out.below HB11.out) (fail_2 w)).mono ?_
 rintro e w12 ⟨rfl, hb⟩
 have HB12 := Lib.hid (below_then HB11.out hb)
 clear hb
 go_wp2_with fail
 refine (lfails _ 0 9 _ (HG.out.below HB12.out) (fail_3 w)).mono ?_
 rintro e w13 ⟨rfl, hb⟩
 have HB13 := Lib.hid (below_then HB12.out hb)
 clear hb
 go_wp2_with fail
 refine (H41.out _).mono ?_
 rintro e w14 ⟨rfl, hb⟩
 have HB14 := Lib.hid (below_then HB13.out hb)
 clear hb
 go_wp2_with fail
 refine (HF41.out _ (HG.out.below HB14.out)).mono ?_
 rintro e w15 ⟨rfl, hb⟩
 have HB15 := Lib.hid (below_then HB14.out hb)
 clear hb
 go_wp2_with fail
 refine (lfails _ 0 4 _ (HG.out.below HB15.out) (fail_5 w)).mono ?_
 rintro e w16 ⟨rfl, hb⟩
 have HB16 := Lib.hid (below_then HB15.out hb)
 clear hb
 go_wp2_with fail
 refine (lfails _ 0 4 _ (HG.out.below HB16.out) (fail_6 w)).mono ?_
 rintro e w17 ⟨rfl, hb⟩
 have HB17 := Lib.hid (below_then HB16.out hb)
 clear hb
 go_wp2_with fail
 refine (lfails _ 1 4 _ (HG.out.below HB17.out) (fail_7 w)).mono ?_
 rintro e w18 ⟨rfl, hb⟩
 have HB18 := Lib.hid (below_then HB17.out hb)
 clear hb
 go_wp2_with fail
 refine (lfails _ 5 8 _ (HG.out.below HB18.out) (fail_8 w)).mono ?_
 rintro e w19 ⟨rfl, hb⟩
 have HB19 := Lib.hid (below_then HB18.out hb)
 clear hb
 go_wp2_with fail
 refine (lfails _ 0 4 _ (HG.out.below HB19.out) (fail_9 w)).mono ?_
 rintro e w20 ⟨rfl, hb⟩
 have HB20 := Lib.hid (below_then HB19.out hb)
 clear hb
 go_wp2_with fail
 refine (lfails _ 0 4 _ (HG.out.below HB20.out) (fail_10 w)).mono ?_
 rintro e w21 ⟨rfl, hb⟩
 have HB21 := Lib.hid (below_then HB20.out hb)
 clear hb
 go_wp2_with fail
 refine (lfails _ 2 4 _ (HG.out.below HB21.out) (fail_11 w)).mono ?_
 rintro e w22 ⟨rfl, hb⟩
 have HB22 := Lib.hid (below_then HB21.out hb)
 clear hb
 go_wp2_with fail
 refine (HS.out _).mono ?_
 rintro e w23 ⟨rfl, hb⟩
 have HB23 := Lib.hid (below_then HB22.out hb)
 clear hb
 go_wp2_with fail
 refine (HFS.out _ (HG.out.below HB23.out)).mono ?_
 rintro e w24 ⟨rfl, hb⟩
 have HB24 := Lib.hid (below_then HB23.out hb)
 clear hb
 go_wp2_with fail
 refine (H97.out _).mono ?_
 rintro e w25 ⟨rfl, hb⟩
 have HB25 := Lib.hid (below_then HB24.out hb)
 clear hb
 go_wp2_with fail
 refine (HF97.out _ (HG.out.below HB25.out)).mono ?_
 rintro e w26 ⟨rfl, hb⟩
 have HB26 := Lib.hid (below_then HB25.out hb)
 clear hb
 go_wp2_with fail
 refine (ltakeVal ⟨#[34, 97, 92, 110, 92, 120, 52, 49, 34]⟩ ⟨#[97, 10, 65]⟩ 0 _ (by decide) (HG.out.below HB26.out).u8 val_0).mono ?_
 rintro e w27 ⟨rfl, hb⟩
 have HB27 := Lib.hid (below_then HB26.out hb)
 clear hb
 go_wp2_with fail
 refine (ltakeVal ⟨#[34, 195, 169, 92, 116, 92, 92, 92, 34, 92, 120, 102, 102, 34]⟩ ⟨#[195, 169, 9, 92, 34, 255]⟩ 0 _ (by decide) (HG.out.below HB27.out).u8 val_1).mono ?_
 rintro e w28 ⟨rfl, hb⟩
 have HB28 := Lib.hid (below_then HB27.out hb)
 clear hb
 go_wp2_with fail
 refine (ltakeVal ⟨#[34, 97, 34, 32]⟩ ⟨#[]⟩ 4 _ (by decide) (HG.out.below HB28.out).u8 val_2).mono ?_
 rintro e w29 ⟨rfl, hb⟩
 have HB29 := Lib.hid (below_then HB28.out hb)
 clear hb
 go_wp2_with fail
 refine (ltakeVal ⟨#[97]⟩ ⟨#[]⟩ 4 _ (by decide) (HG.out.below HB29.out).u8 val_3).mono ?_
 rintro e w30 ⟨rfl, hb⟩
 have HB30 := Lib.hid (below_then HB29.out hb)
 clear hb
 go_wp2_with fail
 refine (H96.out _).mono ?_
 rintro e w31 ⟨rfl, hb⟩
 have HB31 := Lib.hid (below_then HB30.out hb)
 clear hb
 go_wp2_with fail
 refine (HV96.out _ (HG.out.below HB31.out).u8).mono ?_
 rintro e w32 ⟨rfl, hb⟩
 have HB32 := Lib.hid (below_then HB31.out hb)
 clear hb
 go_wp2_with fail
 refine (H97.out _).mono ?_
 rintro e w33 ⟨rfl, hb⟩
 have HB33 := Lib.hid (below_then HB32.out hb)
 clear hb
 go_wp2_with fail
 refine (HV97.out _ (HG.out.below HB33.out).u8).mono ?_
 rintro e w34 ⟨rfl, hb⟩
 have HB34 := Lib.hid (below_then HB33.out hb)
 clear hb
 go_wp2_with fail
 refine ((show ∀ w, Calls Tryz.prog 20 #[.string ⟨#[65, 98]⟩] w fun e w' => e = .returned (.bool true) ∧ Below w.heap.size w w' from fun w => lExported ⟨#[65, 98]⟩ w (by decide)) _).mono ?_
 rintro e w35 ⟨rfl, hb⟩
 have HB35 := Lib.hid (below_then HB34.out hb)
 clear hb
 go_wp2_with fail
 refine ((show ∀ w, Calls Tryz.prog 20 #[.string ⟨#[97, 66]⟩] w fun e w' => e = .returned (.bool false) ∧ Below w.heap.size w w' from fun w => lExported ⟨#[97, 66]⟩ w (by decide)) _).mono ?_
 rintro e w36 ⟨rfl, hb⟩
 have HB36 := Lib.hid (below_then HB35.out hb)
 clear hb
 go_wp2_with fail
 refine ((show ∀ w, Calls Tryz.prog 20 #[.string ⟨#[95, 66]⟩] w fun e w' => e = .returned (.bool false) ∧ Below w.heap.size w w' from fun w => lExported ⟨#[95, 66]⟩ w (by decide)) _).mono ?_
 rintro e w37 ⟨rfl, hb⟩
 have HB37 := Lib.hid (below_then HB36.out hb)
 clear hb
 go_wp2_with fail
 refine ((show ∀ w, Calls Tryz.prog 20 #[.string ⟨#[]⟩] w fun e w' => e = .returned (.bool false) ∧ Below w.heap.size w w' from fun w => lExported ⟨#[]⟩ w (by decide)) _).mono ?_
 rintro e w38 ⟨rfl, hb⟩
 have HB38 := Lib.hid (below_then HB37.out hb)
 clear hb
 go_wp2_with fail
 refine ((show ∀ w, Calls Tryz.prog 14 #[.string ⟨#[95, 49]⟩] w fun e w' => e = .returned (.bool true) ∧ Below w.heap.size w w' from fun w => lName ⟨#[95, 49]⟩ w (by decide)) _).mono ?_
 rintro e w39 ⟨rfl, hb⟩
 have HB39 := Lib.hid (below_then HB38.out hb)
 clear hb
 go_wp2_with fail
 refine ((show ∀ w, Calls Tryz.prog 14 #[.string ⟨#[49, 97]⟩] w fun e w' => e = .returned (.bool false) ∧ Below w.heap.size w w' from fun w => lName ⟨#[49, 97]⟩ w (by decide)) _).mono ?_
 rintro e w40 ⟨rfl, hb⟩
 have HB40 := Lib.hid (below_then HB39.out hb)
 clear hb
 go_wp2_with fail
 refine ((show ∀ w, Calls Tryz.prog 14 #[.string ⟨#[95]⟩] w fun e w' => e = .returned (.bool false) ∧ Below w.heap.size w w' from fun w => lName ⟨#[95]⟩ w (by decide)) _).mono ?_
 rintro e w41 ⟨rfl, hb⟩
 have HB41 := Lib.hid (below_then HB40.out hb)
 clear hb
 go_wp2_with fail
 refine (H40.out _).mono ?_
 rintro e w42 ⟨rfl, hb⟩
 have HB42 := Lib.hid (below_then HB41.out hb)
 clear hb
 go_wp2_with fail
 refine (HN40.out _).mono ?_
 rintro e w43 ⟨rfl, hb⟩
 have HB43 := Lib.hid (below_then HB42.out hb)
 clear hb
 go_wp2_with fail
 refine (H41.out _).mono ?_
 rintro e w44 ⟨rfl, hb⟩
 have HB44 := Lib.hid (below_then HB43.out hb)
 clear hb
 go_wp2_with fail
 refine (HN41.out _).mono ?_
 rintro e w45 ⟨rfl, hb⟩
 have HB45 := Lib.hid (below_then HB44.out hb)
 clear hb
 go_wp2_with fail
 refine ((show ∀ w, Calls Tryz.prog 15 #[.string ⟨#[108, 101, 110]⟩] w fun e w' => e = .returned (.bool true) ∧ Below w.heap.size w w' from fun w => lReserved ⟨#[108, 101, 110]⟩ w) _).mono ?_
 rintro e w46 ⟨rfl, hb⟩
 have HB46 := Lib.hid (below_then HB45.out hb)
 clear hb
 go_wp2_with fail
 refine ((show ∀ w, Calls Tryz.prog 15 #[.string ⟨#[110, 105, 108]⟩] w fun e w' => e = .returned (.bool false) ∧ Below w.heap.size w w' from fun w => lReserved ⟨#[110, 105, 108]⟩ w) _).mono ?_
 rintro e w47 ⟨rfl, hb⟩
 have HB47 := Lib.hid (below_then HB46.out hb)
 clear hb
 go_wp2_with fail
 refine (lawake _ (HG.out.below HB47.out)).mono ?_
 rintro e w48 ⟨rfl, hb⟩
 have HB48 := Lib.hid (below_then HB47.out hb)
 clear hb
 go_wp2_with fail
 go_ret
 exact ⟨rfl, HB48.out⟩
end
end Go.Proofs.YtclbmmiedihepaaGreatDoor
