/- num.Float and the document's Float, side by side. The law NumLiterals. -/
import Derived.Test.YtclbmmiedihepaaGreatDoorQZb
import Derived.Test.YtclbmmiedihepaaGreatDoorQZc
import Derived.Test.YtclbmmiedihepaaGreatDoorQZd
import Derived.Test.YtclbmmiedihepaaGreatDoorQA
namespace Go.Proofs.YtclbmmiedihepaaGreatDoor
section
open Go.RowKit
set_option linter.unusedVariables false
set_option linter.unusedSimpArgs false
def Ref4 (s : ByteArray) : Prop := ∀ w, Calls Tryz.prog 62 #[.string s] w fun e w' => e = .returned (.tuple #[.int .u64 0, .int .i64 4]) ∧ Below w.heap.size w w'
theorem lsz (s : ByteArray) : s.data.toList.length = s.size := rfl
theorem ref16_nohead (s : ByteArray) (hs : s.size ≤ 60) (h : ¬ ∃ x y, Head s.data.toList x y) : Ref4 s := fun w => by
 have h1 := nohead_ref h
 by_cases h0 : digN s.data.toList = 0
 · exact ref16_h0 s hs h0 w
 have hle := digN_le s.data.toList
 rw [lsz] at hle h1
 have hsz0 : 0 < s.size := by omega
 obtain ⟨c0, hc0⟩ : ∃ c0, s.data.toList[0]? = some c0 := ⟨_, List.getElem?_eq_getElem hsz0⟩
 by_cases hm : 1 < digN s.data.toList
 · by_cases hz : c0 = 48
   · exact ref16_h1 s _ c0 w hs rfl h0 hsz0 hc0 hm hz
   · rcases h1 with h1 | ⟨_, h1⟩ | h1 | ⟨h1, h2⟩
     · exact absurd h1 h0
     · rw [hc0] at h1
       exact absurd (Option.some.inj h1) hz
     · exact ref16_h2_2 s _ c0 w hs rfl h0 hsz0 hc0 hm hz h1
     · obtain ⟨c1, hc1⟩ : ∃ c1, s.data.toList[digN s.data.toList]? = some c1 := ⟨_, List.getElem?_eq_getElem h1⟩
       exact ref16_h3_2 s _ c0 w hs rfl h0 hsz0 hc0 hm hz h1 c1 hc1 (fun e => h2 (by rw [hc1, e]))
 · rcases h1 with h1 | ⟨h1, _⟩ | h1 | ⟨h1, h2⟩
   · exact absurd h1 h0
   · exact absurd h1 hm
   · exact ref16_h2_1 s _ c0 w hs rfl h0 hsz0 hc0 hm h1
   · obtain ⟨c1, hc1⟩ : ∃ c1, s.data.toList[digN s.data.toList]? = some c1 := ⟨_, List.getElem?_eq_getElem h1⟩
     exact ref16_h3_1 s _ c0 w hs rfl h0 hsz0 hc0 hm h1 c1 hc1 (fun e => h2 (by rw [hc1, e]))
structure HF (s : ByteArray) (x y : List UInt8) (c0 : UInt8) : Prop where
 get0 : s.data.toList[0]? = some c0
 z : x.length = 1 ∨ c0 ≠ 48
 pos : x.length ≠ 0
 lt : x.length < s.size
 dot : s.data.toList[x.length]? = some 46
 rest : s.data.toList.drop (x.length + 1) = y
 size : s.size = x.length + 1 + y.length
 dig : digN s.data.toList = x.length
 digs : ∀ c ∈ x, isDig c = true
theorem head_facts {s : ByteArray} {x y : List UInt8} (h : Head s.data.toList x y) : ∃ c0, HF s x y c0 := by
 obtain ⟨hne, hx, h1⟩ := natV_dig h.2
 have hd := h.digN
 have hL := h.1
 have hp := List.length_pos_iff.2 hne
 have hsz : s.size = x.length + 1 + y.length := by rw [← lsz, hL]; simp; omega
 obtain ⟨c0, hc0⟩ : ∃ c0, x[0]? = some c0 := ⟨_, List.getElem?_eq_getElem hp⟩
 refine ⟨c0, ?_, ?_, by omega, by omega, ?_, ?_, hsz, hd, hx⟩
 · rw [hL, List.getElem?_append_left hp]; exact hc0
 · rcases h1 with h1 | h1
   · exact .inl h1
   · exact .inr (fun e => h1 (by rw [hc0, e]))
 · rw [hL]; simp
 · rw [hL, List.drop_append, List.drop_eq_nil_of_le (by omega), show x.length + 1 - x.length = 1 by omega]; rfl
theorem ref16_nofrac (s : ByteArray) (hs : s.size ≤ 60) {x y : List UInt8} (h : Head s.data.toList x y) (h0 : digN y = 0) : Ref4 s := fun w => by
 obtain ⟨c0, H⟩ := head_facts h
 have hr1 : digN (s.data.toList.drop (x.length + 1)) = 0 := by rw [H.rest]; exact h0
 rcases H.z with hz | hz
 · exact ref16_h4_1 s _ c0 w hs H.dig H.pos (by have := H.lt; omega) H.get0 (by omega) H.lt 46 H.dot rfl _ rfl hr1
 · by_cases hm : 1 < x.length
   · exact ref16_h4_2 s _ c0 w hs H.dig H.pos (by have := H.lt; omega) H.get0 hm hz H.lt 46 H.dot rfl _ rfl hr1
   · exact ref16_h4_1 s _ c0 w hs H.dig H.pos (by have := H.lt; omega) H.get0 hm H.lt 46 H.dot rfl _ rfl hr1
/-- The document's exponent, of a list of bytes. -/
theorem exp_get {t : List UInt8} {q : Nat} (hz : 0 < (mkB t).size) (hq : ExpQ t q) : (q = 0 ∧ (mkB t)[0]'hz ≠ 43 ∧ (mkB t)[0]'hz ≠ 45) ∨ (q = 1 ∧ (mkB t)[0]'hz = 43) ∨ (q = 1 ∧ (mkB t)[0]'hz = 45) := by
 have hl : 0 < t.length := by rw [← mkB_size]; exact hz
 obtain ⟨c, hc0⟩ : ∃ c, t[0]? = some c := ⟨_, List.getElem?_eq_getElem hl⟩
 have hg := mkB_get hz hc0
 rw [hg]
 rcases hq with ⟨h1, h2, h3⟩ | ⟨h1, h2⟩ | ⟨h1, h2⟩
 · exact .inl ⟨h1, fun e => h2 (by rw [hc0, e]), fun e => h3 (by rw [hc0, e])⟩
 · rw [hc0] at h2; exact .inr (.inl ⟨h1, Option.some.inj h2⟩)
 · rw [hc0] at h2; exact .inr (.inr ⟨h1, Option.some.inj h2⟩)
theorem exp_good (t : List UInt8) (q : Nat) (hq : ExpQ t q) (ho : ExpOk t q) (W : World) : Calls Tryz.prog 85 #[.string (mkB t)] W fun e w' => e = .returned (.tuple #[.int .i64 (expX t q), .bool true]) ∧ W = w' := by
 obtain ⟨o1, o2, o3⟩ := ho
 have hz : 0 < (mkB t).size := by rw [mkB_size]; omega
 have h := exp_yes (mkB t) q (by rw [mkB_size]; omega) (by rw [mkB_size]; omega) (by rw [mkB_list]; exact o3) (exp_get hz hq) W
 rw [mkB_list] at h
 obtain ⟨c, hc0⟩ : ∃ c, t[0]? = some c := ⟨_, List.getElem?_eq_getElem (by omega)⟩
 have hg := mkB_get hz hc0
 have e : (if (mkB t)[0]'hz = 45 then -((valD 0 (t.drop q) : Nat) : Int) else ((valD 0 (t.drop q) : Nat) : Int)) = expX t q := by
  unfold expX
  rw [hg, hc0]
  by_cases hc : c = 45
  · rw [if_pos hc, if_pos (by rw [hc])]
  · rw [if_neg hc, if_neg (fun e => hc (Option.some.inj e))]
 rw [e] at h
 exact h
theorem exp_badc (t : List UInt8) (q : Nat) (ht : t ≠ []) (hl : t.length ≤ 60) (hq : ExpQ t q) (hql : q ≤ t.length) (hb : ExpBad t q) (W : World) : Calls Tryz.prog 85 #[.string (mkB t)] W fun e w' => e = .returned (.tuple #[.int .i64 0, .bool false]) ∧ W = w' := by
 have hz : 0 < (mkB t).size := by rw [mkB_size]; exact List.length_pos_iff.2 ht
 exact exp_no (mkB t) q (by rw [mkB_size]; omega) hz (by rw [mkB_size]; exact hql) (by rw [mkB_size, mkB_list]; exact hb) (exp_get hz hq) W
theorem exp_some (t : List UInt8) (hl : t.length ≤ 60) : ∃ (n : Int) (is : Bool), ∀ W, Calls Tryz.prog 85 #[.string (mkB t)] W fun e w' => e = .returned (.tuple #[.int .i64 n, .bool is]) ∧ W = w' := by
 by_cases ht : t = []
 · subst ht; exact ⟨0, false, exp_empty⟩
 · obtain ⟨q, hq, hql, ho | hb⟩ := exp_class t ht
   · exact ⟨_, true, exp_good t q hq ho⟩
   · exact ⟨0, false, exp_badc t q ht hl hq hql hb⟩
theorem s_from (s : ByteArray) {k : Nat} {r : List UInt8} (h : s.data.toList.drop k = r) : s.extract k s.size = mkB r := ba_ext (by rw [Lib.extract_to_end, mkB_list, h])
structure PF2 (s : ByteArray) (x u r : List UInt8) : Prop where
 run : digN (s.data.toList.drop (x.length + 1)) = u.length
 rest : s.extract (x.length + 1 + u.length) s.size = mkB r
 le : x.length + 1 + u.length ≤ s.size
 rl : r.length ≤ s.size
theorem parts_facts {s : ByteArray} {x u r : List UInt8} {c0 : UInt8} (H : HF s x (u ++ r) c0) (hu : ∀ c ∈ u, isDig c = true) (hr : r = [] ∨ ∃ c t, r = c :: t ∧ isDig c = false) : PF2 s x u r := by
 have hsz := H.size
 rw [List.length_append] at hsz
 refine ⟨by rw [H.rest]; exact digN_app hu hr, s_from s ?_, by omega, by omega⟩
 rw [← List.drop_drop, H.rest, List.drop_left]
theorem ref16_tail (s : ByteArray) (hs : s.size ≤ 60) {x u : List UInt8} {c0 c : UInt8} {t : List UInt8} (H : HF s x (u ++ c :: t) c0) (hu0 : u ≠ []) (hu : ∀ c ∈ u, isDig c = true) (hc : isDig c = false)
  (h : c ≠ 101 ∨ (c = 101 ∧ ∃ n : Int, ∀ W, Calls Tryz.prog 85 #[.string (mkB t)] W fun e w' => e = .returned (.tuple #[.int .i64 n, .bool false]) ∧ W = w')) : Ref4 s := fun w => by
 have hP := parts_facts H hu (.inr ⟨c, t, rfl, hc⟩)
 have hb0 : u.length ≠ 0 := by have := List.length_pos_iff.2 hu0; omega
 have hR0 : 0 < (mkB (c :: t)).size := by rw [mkB_size]; simp
 have hg : (mkB (c :: t))[0]'hR0 = c := mkB_get hR0 rfl
 have hT : (mkB (c :: t)).extract 1 (mkB (c :: t)).size = mkB t := mkB_drop _ _ _ rfl
 have hs0 : 0 < s.size := by have := H.lt; omega
 have htl : t.length ≤ 60 := by have := hP.rl; simp at this; omega
 have hrl := hP.rl
 rcases h with h | ⟨h, n, hE⟩
 · obtain ⟨n, is, hE⟩ := exp_some t htl
   have hR1 : (mkB (c :: t))[0]'hR0 ≠ 101 := by rw [hg]; exact h
   by_cases hm : 1 < x.length
   · have hz : c0 ≠ 48 := by rcases H.z with hz | hz; omega; exact hz
     exact ref16_h5_2_1 s _ c0 w hs H.dig H.pos hs0 H.get0 hm hz H.lt 46 H.dot rfl _ rfl _ hP.run hb0 _ rfl hP.le _ _ hP.rest hR0 hR1 is n hT hE
   · exact ref16_h5_1_1 s _ c0 w hs H.dig H.pos hs0 H.get0 hm H.lt 46 H.dot rfl _ rfl _ hP.run hb0 _ rfl hP.le _ _ hP.rest hR0 hR1 is n hT hE
 · have hR1 : (mkB (c :: t))[0]'hR0 = 101 := by rw [hg]; exact h
   by_cases hm : 1 < x.length
   · have hz : c0 ≠ 48 := by rcases H.z with hz | hz; omega; exact hz
     exact ref16_h5_2_2 s _ c0 w hs H.dig H.pos hs0 H.get0 hm hz H.lt 46 H.dot rfl _ rfl _ hP.run hb0 _ rfl hP.le _ _ hP.rest hR0 hR1 n hT hE
   · exact ref16_h5_1_2 s _ c0 w hs H.dig H.pos hs0 H.get0 hm H.lt 46 H.dot rfl _ rfl _ hP.run hb0 _ rfl hP.le _ _ hP.rest hR0 hR1 n hT hE
theorem ref16_bad (s : ByteArray) (hs : s.size ≤ 60) {x u r : List UInt8} (h : Head s.data.toList x (u ++ r)) (hu0 : u ≠ []) (hu : ∀ c ∈ u, isDig c = true) (ht : TailC r) (hno : ¬ TailOk r) : Ref4 s := by
 obtain ⟨c0, H⟩ := head_facts h
 cases ht with
 | none hr => exact absurd (.inl hr) hno
 | other hr =>
  obtain ⟨c, t, rfl, hc, hne⟩ := hr
  exact ref16_tail s hs H hu0 hu hc (.inl hne)
 | bare hr =>
  subst hr
  exact ref16_tail s hs H hu0 hu (by decide) (.inr ⟨rfl, 0, exp_empty⟩)
 | bad hr =>
  obtain ⟨t, q, rfl, ht0, hq, hql, hb⟩ := hr
  have hsz := H.size
  simp only [List.length_append, List.length_cons] at hsz
  exact ref16_tail s hs H hu0 hu (by decide) (.inr ⟨rfl, 0, exp_badc t q ht0 (by omega) hq hql hb⟩)
 | good hr => exact absurd (.inr hr) hno
theorem ba_app_list (X Y : ByteArray) : (X ++ Y).data.toList = X.data.toList ++ Y.data.toList := by simp [ByteArray.data_append]
theorem all_list (s : ByteArray) (a k1 k2 : Nat) : (s.extract 0 a ++ s.extract k1 k2).data.toList = s.data.toList.take a ++ (s.data.toList.take k2).drop k1 := by
 rw [ba_app_list]
 simp [ByteArray.data_extract, Array.toList_extract, List.extract_eq_take_drop, List.drop_take]
/-- The two Floats of a literal. -/
theorem lit_both (s : ByteArray) (x u r : List UInt8) (K : Nat) (hK : K = 1074) (hs : s.size ≤ 60) (h : Head s.data.toList x (u ++ r)) (hu0 : u ≠ []) (hu : ∀ c ∈ u, isDig c = true) (hok : TailOk r) :
  ∃ xe : Int, AT3 s (rd10 (valD 0 (x ++ u)) (xe - u.length) K) (rd10 (valD 0 (x ++ u)) (xe - u.length) K == 9218868437227405312) ∧
   ∀ w, Calls Tryz.prog 62 #[.string s] w fun e w' => e = .returned (if rd10 (valD 0 (x ++ u)) (xe - u.length) K = 9218868437227405312 then .tuple #[.int .u64 0, .int .i64 3] else .tuple #[.int .u64 (rd10 (valD 0 (x ++ u)) (xe - u.length) K : Nat), .int .i64 0]) ∧ Below w.heap.size w w' := by
 obtain ⟨c0, H⟩ := head_facts h
 have hb0 : u.length ≠ 0 := by have := List.length_pos_iff.2 hu0; omega
 have hsz := H.size
 rw [List.length_append] at hsz
 have hall : (s.extract 0 x.length ++ s.extract (x.length + 1) (x.length + 1 + u.length)).data.toList = x ++ u := by
  rw [all_list, h.1, List.take_left]
  congr 1
  rw [show x ++ 46 :: (u ++ r) = (x ++ 46 :: u) ++ r by simp, List.take_append_of_le_length (by simp; omega), List.take_of_length_le (by simp; omega), List.drop_append, List.drop_eq_nil_of_le (by omega), show x.length + 1 - x.length = 1 by omega]
  rfl
 have hAs : (s.extract 0 x.length ++ s.extract (x.length + 1) (x.length + 1 + u.length)).size ≤ 59 := by
  rw [← lsz, hall, List.length_append]; omega
 have hdig : ∀ c ∈ (s.extract 0 x.length ++ s.extract (x.length + 1) (x.length + 1 + u.length)).data.toList, isDig c = true := by
  rw [hall]
  intro c hc
  rcases List.mem_append.1 hc with hc | hc
  · exact H.digs c hc
  · exact hu c hc
 have hV : valD 0 (s.extract 0 x.length ++ s.extract (x.length + 1) (x.length + 1 + u.length)).data.toList = valD 0 (x ++ u) := by rw [hall]
 rcases hok with rfl | ⟨t, q, rfl, hq, ho⟩
 · have hP := parts_facts H hu (.inl rfl)
   refine ⟨0, at_end s x u K hK hs h hu0 hu, fun w => ?_⟩
   exact ref16_n s _ _ _ _ _ _ _ _ _ K 0 w hK hs c0 46 H.dig H.pos H.get0 H.z H.lt H.dot rfl rfl hP.run hb0 rfl hP.le hP.rest mkB_nil rfl rfl rfl rfl hAs hdig hV (by decide) (by decide)
 · have hP := parts_facts H hu (.inr ⟨101, t, rfl, by decide⟩)
   have hr := expX_range ho
   have hR0 : 0 < (mkB (101 :: t)).size := by rw [mkB_size]; simp
   refine ⟨expX t q, at_pow s x u t q K hK hs h hu0 hu hq ho, fun w => ?_⟩
   exact ref16_e s _ _ _ _ _ _ _ _ _ K (expX t q) w hK hs c0 46 H.dig H.pos H.get0 H.z H.lt H.dot rfl rfl hP.run hb0 rfl hP.le hP.rest hR0 (mkB_get hR0 rfl) _ (mkB_drop _ _ _ rfl) (exp_good t q hq ho) rfl rfl rfl hAs hdig hV hr.1 hr.2
end

section
open Go.RowKit
set_option linter.unusedVariables false
set_option linter.unusedSimpArgs false
theorem float_both (s : ByteArray) (hs : s.size ≤ 1000000) : ∃ (f : Nat) (ge : Int),
  (∀ w, Glob3 w → Calls Tryz.prog 56 #[.string s] w fun e w' => e = .returned (.tuple #[.float .f64 f, .int .i64 ge]) ∧ Below w.heap.size w w') ∧
  ∀ w', Calls Tryz.prog 62 #[.string s] w' fun e w2 => e = .returned (.tuple #[.int .u64 f, .int .i64 ge]) ∧ Below w'.heap.size w' w2 := by
 by_cases h60 : s.size ≤ 60
 · obtain ⟨K, hK⟩ : ∃ K, K = 1074 := ⟨_, rfl⟩
   cases lit_class s.data.toList with
   | nohead h =>
    refine ⟨0, 4, fun w hG => ?_, fun w' => ref16_nohead s h60 h w'⟩
    obtain ⟨m, hm⟩ := hG.g2.glob.knows.maxlen
    exact numFloat_no s h60 w (fl_nohead s m w h60 hm h)
   | nofrac h =>
    obtain ⟨x, y, hh, h0⟩ := h
    refine ⟨0, 4, fun w hG => ?_, fun w' => ref16_nofrac s h60 hh h0 w'⟩
    obtain ⟨m, hm⟩ := hG.g2.glob.knows.maxlen
    exact numFloat_no s h60 w (fl_nofrac s m w h60 hm hh h0)
   | parts h =>
    obtain ⟨x, u, r, hh, hu0, hu, ht⟩ := h
    rcases fl_parts s h60 hh hu0 hu ht with ⟨hok, hf⟩ | ⟨hno, hf⟩
    · obtain ⟨xe, hat, hrf⟩ := lit_both s x u r K hK h60 hh hu0 hu hok
      by_cases htop : rd10 (valD 0 (x ++ u)) (xe - u.length) K = 9218868437227405312
      · rw [beq_top_is htop] at hat
        refine ⟨0, 3, fun w hG => ?_, fun w' => ?_⟩
        · obtain ⟨m, hm⟩ := hG.g2.glob.knows.maxlen
          exact numFloat3_err s _ hat h60 w hG (hf m w hm)
        · have h3 := hrf w'
          rw [if_pos htop] at h3
          exact h3
      · rw [beq_top_lt (by have := rd10_le (valD 0 (x ++ u)) (xe - u.length) K; omega)] at hat
        refine ⟨rd10 (valD 0 (x ++ u)) (xe - u.length) K, 0, fun w hG => ?_, fun w' => ?_⟩
        · obtain ⟨m, hm⟩ := hG.g2.glob.knows.maxlen
          exact numFloat3_ok s _ hat h60 w hG (hf m w hm)
        · have h3 := hrf w'
          rw [if_neg htop] at h3
          exact h3
    · refine ⟨0, 4, fun w hG => ?_, fun w' => ref16_bad s h60 hh hu0 hu ht hno w'⟩
      obtain ⟨m, hm⟩ := hG.g2.glob.knows.maxlen
      exact numFloat_no s h60 w (hf m w hm)
 · exact ⟨0, 3, fun w hG => numFloat_long s (by omega) hs w, fun w' => ref16_long s (by omega) hs w'⟩
end
end Go.Proofs.YtclbmmiedihepaaGreatDoor
