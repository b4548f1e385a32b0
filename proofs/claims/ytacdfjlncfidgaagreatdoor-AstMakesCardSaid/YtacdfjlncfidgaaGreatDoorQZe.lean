/- A part of what the claim leans on. -/
import Derived.Test.YtacdfjlncfidgaaGreatDoorQX
import Derived.Test.YtacdfjlncfidgaaGreatDoorQYa
import Derived.Test.YtacdfjlncfidgaaGreatDoorQYb
import Derived.Test.YtacdfjlncfidgaaGreatDoorQYc
import Derived.Test.YtacdfjlncfidgaaGreatDoorQYd
import Derived.Test.YtacdfjlncfidgaaGreatDoorQR
import Derived.Test.YtacdfjlncfidgaaGreatDoorQZ
import Derived.Test.YtacdfjlncfidgaaGreatDoorQA
namespace Go.Proofs.YtacdfjlncfidgaaGreatDoor
open Go.RowKit
set_option linter.unusedVariables false
set_option linter.unusedSimpArgs false
def expX (t : List UInt8) (q : Nat) : Int := if t[0]? = some 45 then -((valD 0 (t.drop q) : Nat) : Int) else ((valD 0 (t.drop q) : Nat) : Int)
theorem expX_range {t : List UInt8} {q : Nat} (h : ExpOk t q) : -1000 < expX t q ∧ expX t q < 1000 := by
 have h1 := valD_999 (t.drop q) h.2.2 (by rw [List.length_drop]; have := h.2.1; omega)
 unfold expX
 split <;> omega
theorem at_lit2 (s : ByteArray) (x u r : List UInt8) (K : Nat) (xe : Int) (hK : K = 1074) (hs : s.size ≤ 60) (h : Head s.data.toList x (u ++ r)) (hu0 : u ≠ []) (hu : ∀ c ∈ u, isDig c = true) (hx : -1000 < xe) (hx2 : xe < 1000)
  (hread : ∀ P, P = x.length + 1 + u.length → Scan s.data.toList P → ∀ w, Calls Tryz.prog 213 #[.string s] w fun e w' => e = .returned (.tuple #[.int .u64 (rsAt s.data.toList P).mant, .int .i64 (expOf (rsAt s.data.toList P) xe), .bool false, .bool (rsAt s.data.toList P).trunc, .bool false, .int .i64 s.size, .bool true]) ∧ w = w')
  (hset : ∀ P, P = x.length + 1 + u.length → Scan s.data.toList P → ∀ (b : Nat) (c : List Nat) (w : World), Dcm w b c 0 0 false false → Calls Tryz.prog 219 #[.pointer (some ⟨b, 0, none⟩), .string s] w fun e w' => e = .returned (.bool true) ∧ SetPost w b (ssAt s.data.toList P) xe w') :
  AT3 s (rd10 (valD 0 (x ++ u)) (xe - u.length) K) (rd10 (valD 0 (x ++ u)) (xe - u.length) K == 9218868437227405312) := by
 have hL := h.1
 have hn := natV_dig h.2
 have hsc : Scan s.data.toList (x.length + 1 + u.length) := by
  have hl : s.data.toList.length ≤ 60 := hs
  rw [hL] at hl ⊢
  exact scan_lit x u r h.2 hu hu0 hl
 have hpos : 0 < s.size := by have : 3 ≤ s.size := hsc.size; omega
 have hDg : Dg s := by
  refine ⟨hpos, hs, ?_⟩
  obtain ⟨c, hc, hd⟩ := hsc.first
  have h2 : s.data.toList[0]? = some (s[0]'hpos) := by rw [List.getElem?_eq_getElem (by exact hpos)]; rfl
  rw [hc] at h2
  rw [← Option.some.inj h2]
  exact hd
 have h3 := at_lit s _ K xe hK hsc hDg hx hx2 (hread _ rfl hsc) (hset _ rfl hsc)
 have hv := ss_lit x u r hn.2.1 hu
 rw [← hL] at hv
 rw [hv.1] at h3
 have e : (ssAt s.data.toList (x.length + 1 + u.length)).dp + xe - ((ssAt s.data.toList (x.length + 1 + u.length)).D.length : Int) = xe - (u.length : Int) := by have := hv.2; omega
 rw [e] at h3
 exact h3
theorem at_end (s : ByteArray) (x u : List UInt8) (K : Nat) (hK : K = 1074) (hs : s.size ≤ 60) (h : Head s.data.toList x (u ++ [])) (hu0 : u ≠ []) (hu : ∀ c ∈ u, isDig c = true) :
  AT3 s (rd10 (valD 0 (x ++ u)) (0 - u.length) K) (rd10 (valD 0 (x ++ u)) (0 - u.length) K == 9218868437227405312) := by
 have hsz : s.size = x.length + 1 + u.length := by show s.data.toList.length = _; rw [h.1]; simp; omega
 refine at_lit2 s x u [] K 0 hK hs h hu0 hu (by decide) (by decide) (fun P hP hsc w => ?_) (fun P hP hsc b c w hm => ?_)
 · by_cases hz : s.data.toList[0]? = some 48
   · exact read_z0 s P w hsc hz (by omega)
   · exact read_n0 s P w hsc hz (by omega)
 · exact set_0 s P b c false false w hsc (by omega) hm
theorem lit_dig_at {L : List UInt8} {Q : Nat} {v : List UInt8} (hv : L.drop Q = v) (h : ∀ c ∈ v, isDig c = true) : ∀ k c, Q ≤ k → L[k]? = some c → isDig c = true := fun k c hk hc => by
 refine h c ?_
 have h2 : (L.drop Q)[k - Q]? = some c := by rw [List.getElem?_drop, show Q + (k - Q) = k by omega]; exact hc
 rw [hv] at h2
 exact List.mem_of_getElem? h2
theorem at_pow (s : ByteArray) (x u t : List UInt8) (q K : Nat) (hK : K = 1074) (hs : s.size ≤ 60) (h : Head s.data.toList x (u ++ 101 :: t)) (hu0 : u ≠ []) (hu : ∀ c ∈ u, isDig c = true) (hq : ExpQ t q) (ho : ExpOk t q) :
  AT3 s (rd10 (valD 0 (x ++ u)) (expX t q - u.length) K) (rd10 (valD 0 (x ++ u)) (expX t q - u.length) K == 9218868437227405312) := by
 have hsz : s.size = x.length + 1 + u.length + 1 + t.length := by show s.data.toList.length = _; rw [h.1]; simp; omega
 obtain ⟨o1, o2, o3⟩ := ho
 have hr := expX_range (t := t) (q := q) ⟨o1, o2, o3⟩
 have eL : s.data.toList = (x ++ 46 :: u) ++ 101 :: t := by rw [h.1]; simp
 have hl : (x ++ 46 :: u).length = x.length + 1 + u.length := by simp; omega
 have g0 : ∀ P, P = x.length + 1 + u.length → s.data.toList[P]? = some 101 := fun P hP => by
  rw [eL, List.getElem?_append_right (by omega), hl, hP, Nat.sub_self]; rfl
 have g1 : ∀ P, P = x.length + 1 + u.length → s.data.toList[P + 1]? = t[0]? := fun P hP => by
  rw [eL, List.getElem?_append_right (by omega), hl, hP, show x.length + 1 + u.length + 1 - (x.length + 1 + u.length) = 0 + 1 by omega, List.getElem?_cons_succ]
 have gd : ∀ P j, P = x.length + 1 + u.length → s.data.toList.drop (P + 1 + j) = t.drop j := fun P j hP => by
  rw [eL, List.drop_append, List.drop_eq_nil_of_le (by omega), hl, hP, show x.length + 1 + u.length + 1 + j - (x.length + 1 + u.length) = j + 1 by omega]; rfl
 refine at_lit2 s x u (101 :: t) K (expX t q) hK hs h hu0 hu hr.1 hr.2 (fun P hP hsc w => ?_) (fun P hP hsc b c w hm => ?_)
 · rcases hq with ⟨rfl, k1, k2⟩ | ⟨rfl, k1⟩ | ⟨rfl, k1⟩
   · have e : expX t 0 = ((valD 0 (s.data.toList.drop (P + 1)) : Nat) : Int) := by unfold expX; rw [if_neg k2, show P + 1 = P + 1 + 0 from rfl, gd P 0 hP]
     rw [e]
     have hds := lit_dig_at (gd P 0 hP) o3
     by_cases hz : s.data.toList[0]? = some 48
     · exact read_z1 s P w hsc hz (by omega) (by omega) (g0 P hP) hds
     · exact read_n1 s P w hsc hz (by omega) (by omega) (g0 P hP) hds
   · have e : expX t 1 = ((valD 0 (s.data.toList.drop (P + 2)) : Nat) : Int) := by unfold expX; rw [if_neg (by rw [k1]; decide), show P + 2 = P + 1 + 1 from rfl, gd P 1 hP]
     rw [e]
     have hds := lit_dig_at (gd P 1 hP) o3
     by_cases hz : s.data.toList[0]? = some 48
     · exact read_z2 s P w hsc hz (by omega) (by omega) (g0 P hP) ((g1 P hP).trans k1) hds
     · exact read_n2 s P w hsc hz (by omega) (by omega) (g0 P hP) ((g1 P hP).trans k1) hds
   · have e : expX t 1 = -((valD 0 (s.data.toList.drop (P + 2)) : Nat) : Int) := by unfold expX; rw [if_pos k1, show P + 2 = P + 1 + 1 from rfl, gd P 1 hP]
     rw [e]
     have hds := lit_dig_at (gd P 1 hP) o3
     by_cases hz : s.data.toList[0]? = some 48
     · exact read_z3 s P w hsc hz (by omega) (by omega) (g0 P hP) ((g1 P hP).trans k1) hds
     · exact read_n3 s P w hsc hz (by omega) (by omega) (g0 P hP) ((g1 P hP).trans k1) hds
 · rcases hq with ⟨rfl, k1, k2⟩ | ⟨rfl, k1⟩ | ⟨rfl, k1⟩
   · have e : expX t 0 = ((valD 0 (s.data.toList.drop (P + 1)) : Nat) : Int) := by unfold expX; rw [if_neg k2, show P + 1 = P + 1 + 0 from rfl, gd P 0 hP]
     rw [e]
     exact set_1 s P b c false false w hsc (by omega) (by omega) (g0 P hP) (lit_dig_at (gd P 0 hP) o3) hm
   · have e : expX t 1 = ((valD 0 (s.data.toList.drop (P + 2)) : Nat) : Int) := by unfold expX; rw [if_neg (by rw [k1]; decide), show P + 2 = P + 1 + 1 from rfl, gd P 1 hP]
     rw [e]
     exact set_2 s P b c false false w hsc (by omega) (by omega) (g0 P hP) ((g1 P hP).trans k1) (lit_dig_at (gd P 1 hP) o3) hm
   · have e : expX t 1 = -((valD 0 (s.data.toList.drop (P + 2)) : Nat) : Int) := by unfold expX; rw [if_pos k1, show P + 2 = P + 1 + 1 from rfl, gd P 1 hP]
     rw [e]
     exact set_3 s P b c false false w hsc (by omega) (by omega) (g0 P hP) ((g1 P hP).trans k1) (lit_dig_at (gd P 1 hP) o3) hm
theorem numFloat_no (s : ByteArray) (hs : s.size ≤ 60) (w : World) (hf : Calls Tryz.prog 184 #[.string s] w fun e w' => e = .returned (.bool false) ∧ Below w.heap.size w w') :
  Calls Tryz.prog 173 #[.string s] w fun e w' => e = .returned (.tuple #[.float .f64 0, .int .i64 4]) ∧ Below w.heap.size w w' := by
 have HF := Lib.hid hf
 have hs2 : ¬ (60 : Int) < (s.size : Int) := by omega
 clear hf
 go_enter Tryz.func173, Tryz.ntmps173
 go_wp2_with (first | (go_at_call 184; refine HF.out.mono ?_; rintro e w1 ⟨rfl, hb1⟩))
 go_ret2
 exact ⟨rfl, hb1⟩
theorem numFloat_long (s : ByteArray) (hs : 60 < s.size) (hs3 : s.size ≤ 1000000) (w : World) :
  Calls Tryz.prog 173 #[.string s] w fun e w' => e = .returned (.tuple #[.float .f64 0, .int .i64 3]) ∧ Below w.heap.size w w' := by
 have hs2 : (60 : Int) < (s.size : Int) := by omega
 go_enter Tryz.func173, Tryz.ntmps173
 go_wp2_with fail
 go_ret2
 exact ⟨rfl, Below.refl _ _⟩
theorem float_prog (s : ByteArray) (hs : s.size ≤ 1000000) : ∃ (f : Nat) (ge : Int),
  ∀ w, Glob3 w → Calls Tryz.prog 173 #[.string s] w fun e w' => e = .returned (.tuple #[.float .f64 f, .int .i64 ge]) ∧ Below w.heap.size w w' := by
 by_cases h60 : s.size ≤ 60
 · obtain ⟨K, hK⟩ : ∃ K, K = 1074 := ⟨_, rfl⟩
   have no (hf : ∀ m w, w.cell? ⟨2, 0, none⟩ = some (.int .i64 m) → Calls Tryz.prog 184 #[.string s] w fun e w' => e = .returned (.bool false) ∧ Below w.heap.size w w') :
     ∃ (f : Nat) (ge : Int), ∀ w, Glob3 w → Calls Tryz.prog 173 #[.string s] w fun e w' => e = .returned (.tuple #[.float .f64 f, .int .i64 ge]) ∧ Below w.heap.size w w' :=
    ⟨0, 4, fun w hG => by obtain ⟨m, hm⟩ := hG.g2.glob.knows.maxlen; exact numFloat_no s h60 w (hf m w hm)⟩
   cases lit_class s.data.toList with
   | nohead h => exact no (fun m w hm => fl_nohead s m w h60 hm h)
   | nofrac h =>
    obtain ⟨x, y, hh, h0⟩ := h
    exact no (fun m w hm => fl_nofrac s m w h60 hm hh h0)
   | parts h =>
    obtain ⟨x, u, r, hh, hu0, hu, ht⟩ := h
    rcases fl_parts s h60 hh hu0 hu ht with ⟨hok, hf⟩ | ⟨hno, hf⟩
    · obtain ⟨xe, hat⟩ : ∃ xe : Int, AT3 s (rd10 (valD 0 (x ++ u)) (xe - u.length) K) (rd10 (valD 0 (x ++ u)) (xe - u.length) K == 9218868437227405312) := by
       rcases hok with rfl | ⟨t, q, rfl, hq, ho⟩
       · exact ⟨0, at_end s x u K hK h60 hh hu0 hu⟩
       · exact ⟨_, at_pow s x u t q K hK h60 hh hu0 hu hq ho⟩
      by_cases htop : rd10 (valD 0 (x ++ u)) (xe - u.length) K = 9218868437227405312
      · rw [beq_top_is htop] at hat
        refine ⟨0, 3, fun w hG => ?_⟩
        obtain ⟨m, hm⟩ := hG.g2.glob.knows.maxlen
        exact numFloat3_err s _ hat h60 w hG (hf m w hm)
      · rw [beq_top_lt (by have := rd10_le (valD 0 (x ++ u)) (xe - u.length) K; omega)] at hat
        refine ⟨rd10 (valD 0 (x ++ u)) (xe - u.length) K, 0, fun w hG => ?_⟩
        obtain ⟨m, hm⟩ := hG.g2.glob.knows.maxlen
        exact numFloat3_ok s _ hat h60 w hG (hf m w hm)
    · exact no (fun m w hm => hf m w hm)
 · exact ⟨0, 3, fun w hG => numFloat_long s (by omega) hs w⟩
end Go.Proofs.YtacdfjlncfidgaaGreatDoor
