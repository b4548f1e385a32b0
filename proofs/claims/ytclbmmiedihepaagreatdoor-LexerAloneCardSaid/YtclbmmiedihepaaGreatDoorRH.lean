/- lexer.Value. The document's Ends. The document's marks. The document's put. -/
import Derived.Test.YtclbmmiedihepaaGreatDoorRG
import Derived.Test.YtclbmmiedihepaaGreatDoorRF
import Derived.Test.YtclbmmiedihepaaGreatDoorQShelfb
namespace Go.Proofs.YtclbmmiedihepaaGreatDoor
section
open Go.RowKit
set_option linter.unusedVariables false
set_option linter.unusedSimpArgs false
/-- A string literal's value, or why it has none. -/
def valueL (L : BL) : BL × Int := match quotV L with
 | some (v, n) => if n = L.length ∧ Lib.validD L = true then (if 4096 < v.length then ([], 3) else (v, 0)) else ([], 4)
 | none => ([], 4)
theorem toBA_size (l : BL) : (toBA l).size = l.length := rfl
set_option maxRecDepth 100000 in
set_option maxHeartbeats 1600000 in
theorem lvalue (s : ByteArray) (w : World) (hs : s.size ≤ 1000000) (hU : U8T w) :
  Calls Tryz.prog 16 #[.string s] w fun e w' => e = .returned (.tuple #[.string (toBA (valueL s.data.toList).1), .int .i64 (valueL s.data.toList).2]) ∧ Below w.heap.size w w' := by
 have hsz : s.data.toList.length = s.size := rfl
 have hq := lquoted s w hs
 cases hqv : quotV s.data.toList with
 | none =>
  rw [hqv] at hq
  have HQ := Lib.hid (show Calls Tryz.prog 39 #[.string s] w fun e w' => e = .returned (.tuple #[.string ⟨#[]⟩, .int .i64 0]) ∧ Below w.heap.size w w' from hq)
  have hv : valueL s.data.toList = ([], 4) := by unfold valueL; rw [hqv]
  rw [hv]
  clear hq hqv hv hsz
  go_enter Tryz.func16, Tryz.ntmps16
  go_wp2_with (first | (go_at_call 39; refine HQ.out.mono ?_; rintro e w1 ⟨rfl, hb1⟩; have HB1 := Lib.hid hb1; clear hb1))
  go_ret2
  exact ⟨rfl, HB1.out⟩
 | some vn =>
  obtain ⟨v, n⟩ := vn
  have hle := quotV_le hqv
  rw [hqv] at hq
  have HQ := Lib.hid (show Calls Tryz.prog 39 #[.string s] w fun e w' => e = .returned (.tuple #[.string (toBA v), .int .i64 (n : Int)]) ∧ Below w.heap.size w w' from hq)
  have hn0 : ((n : Int) == 0) = false := beq_eq_false_iff_ne.2 (by omega)
  by_cases hn : n = s.size
  · have b1 : ((n : Int) != (s.size : Int)) = false := by simp [hn]
    have HU := Lib.hid (fun (w1 : World) (hb : Below w.heap.size w w1) => Tryz.utf8_ValidString s w1 (by omega) (Utf8Tabs_below hU hb))
    cases hd : Lib.validD s.data.toList with
    | false =>
     have hv : valueL s.data.toList = ([], 4) := by unfold valueL; rw [hqv]; exact if_neg (by rw [hd]; simp)
     rw [hv]; rw [hd] at HU
     clear hq hqv hv hd hle hsz hn
     go_enter Tryz.func16, Tryz.ntmps16
     go_wp2_with (first | (go_at_call 39; refine HQ.out.mono ?_; rintro e w1 ⟨rfl, hb1⟩; have HB1 := Lib.hid hb1; clear hb1) | (go_at_call 40; refine (HU.out _ HB1.out).mono ?_; rintro e w2 ⟨rfl, hb2⟩; have HB2 := Lib.hid hb2; clear hb2))
     go_ret2
     exact ⟨rfl, HB1.out.trans (HB2.out.mono HB1.out.size)⟩
    | true =>
     rw [hd] at HU
     by_cases hl : 4096 < v.length
     · have hv : valueL s.data.toList = ([], 3) := by unfold valueL; rw [hqv]; exact (if_pos ⟨by rw [hsz]; exact hn, hd⟩).trans (if_pos hl)
       have hl2 : (4096 : Int) < ((toBA v).size : Int) := by rw [toBA_size]; omega
       rw [hv]
       clear hq hqv hv hd hle hsz hl hn
       go_enter Tryz.func16, Tryz.ntmps16
       go_wp2_with (first | (go_at_call 39; refine HQ.out.mono ?_; rintro e w1 ⟨rfl, hb1⟩; have HB1 := Lib.hid hb1; clear hb1) | (go_at_call 40; refine (HU.out _ HB1.out).mono ?_; rintro e w2 ⟨rfl, hb2⟩; have HB2 := Lib.hid hb2; clear hb2))
       go_ret2
       exact ⟨rfl, HB1.out.trans (HB2.out.mono HB1.out.size)⟩
     · have hv : valueL s.data.toList = (v, 0) := by unfold valueL; rw [hqv]; exact (if_pos ⟨by rw [hsz]; exact hn, hd⟩).trans (if_neg hl)
       have hl2 : ¬ (4096 : Int) < ((toBA v).size : Int) := by rw [toBA_size]; omega
       rw [hv]
       clear hq hqv hv hd hle hsz hl hn
       go_enter Tryz.func16, Tryz.ntmps16
       go_wp2_with (first | (go_at_call 39; refine HQ.out.mono ?_; rintro e w1 ⟨rfl, hb1⟩; have HB1 := Lib.hid hb1; clear hb1) | (go_at_call 40; refine (HU.out _ HB1.out).mono ?_; rintro e w2 ⟨rfl, hb2⟩; have HB2 := Lib.hid hb2; clear hb2))
       go_ret2
       exact ⟨rfl, HB1.out.trans (HB2.out.mono HB1.out.size)⟩
  · have b1 : ((n : Int) == (s.size : Int)) = false := beq_eq_false_iff_ne.2 (by omega)
    have hv : valueL s.data.toList = ([], 4) := by unfold valueL; rw [hqv]; exact if_neg (fun h => hn (by rw [← hsz]; exact h.1))
    rw [hv]
    clear hq hqv hv hle hsz
    go_enter Tryz.func16, Tryz.ntmps16
    go_wp2_with (first | (go_at_call 39; refine HQ.out.mono ?_; rintro e w1 ⟨rfl, hb1⟩; have HB1 := Lib.hid hb1; clear hb1))
    go_ret2
    exact ⟨rfl, HB1.out⟩
end

section
open Go.RowKit
set_option linter.unusedVariables false
set_option linter.unusedSimpArgs false
/-- What the document's Ends answers. -/
def endsR (k : Nat) (t : BL) : Bool := if k = 1 ∨ k = 3 ∨ k = 4 ∨ k = 5 then true else if k = 2 then hasB endW t else if k = 6 then decide (t = [41]) || decide (t = [125]) else false
set_option maxHeartbeats 1600000 in
theorem rends (k : Nat) (t : ByteArray) (a b : Nat) (w : World) :
  Calls Tryz.prog 59 #[tokV k t a b] w fun e w' => e = .returned (.bool (endsR k t.data.toList)) ∧ Below w.heap.size w w' := by
 obtain ⟨a0, a1, a2, a3, az, al⟩ := tcells (T := 31) (heap_alloc_new w (.cells #[.int .i64 (k : Int), .string t, .int .i64 (a : Int), .int .i64 (b : Int)] 31))
 have HB0 := Lib.hid ((Below.refl w.heap.size w).alloc (Nat.le_refl _) (.cells #[.int .i64 (k : Int), .string t, .int .i64 (a : Int), .int .i64 (b : Int)] 31))
 unfold tokV
 by_cases k1 : k = 1
 · subst k1
   go_enter Tryz.func59, Tryz.ntmps59
   go_wp2_with fail
   go_ret
   exact ⟨rfl, HB0.out⟩
 have b1 : ((k : Int) == 1) = false := beq_eq_false_iff_ne.2 (by omega)
 by_cases k3 : k = 3
 · subst k3
   go_enter Tryz.func59, Tryz.ntmps59
   go_wp2_with fail
   go_ret
   exact ⟨rfl, HB0.out⟩
 have b3 : ((k : Int) == 3) = false := beq_eq_false_iff_ne.2 (by omega)
 by_cases k4 : k = 4
 · subst k4
   go_enter Tryz.func59, Tryz.ntmps59
   go_wp2_with fail
   go_ret
   exact ⟨rfl, HB0.out⟩
 have b4 : ((k : Int) == 4) = false := beq_eq_false_iff_ne.2 (by omega)
 by_cases k5 : k = 5
 · subst k5
   go_enter Tryz.func59, Tryz.ntmps59
   go_wp2_with fail
   go_ret
   exact ⟨rfl, HB0.out⟩
 have b5 : ((k : Int) == 5) = false := beq_eq_false_iff_ne.2 (by omega)
 have hv0 : endsR k t.data.toList = if k = 2 then hasB endW t.data.toList else if k = 6 then decide (t.data.toList = [41]) || decide (t.data.toList = [125]) else false := by
  unfold endsR; rw [if_neg (by omega)]
 by_cases k2 : k = 2
 · subst k2
   rw [if_pos rfl] at hv0
   have HV := Lib.hid hv0
   have HC := Lib.hid (rhas endW (w.heap.size + 1) 0 9 t ((w.alloc (.cells #[.int .i64 2, .string t, .int .i64 (a : Int), .int .i64 (b : Int)] 31)).alloc (.cells (endW.map fun l => Value.string ⟨l.toArray⟩).toArray 9)) (by decide) (by intro j x hx; have h9 := cells_of_new endW (w.alloc (.cells #[.int .i64 2, .string t, .int .i64 (a : Int), .int .i64 (b : Int)] 31)) j x hx; rwa [World.size_alloc] at h9))
   have HB1 := Lib.hid (HB0.out.alloc HB0.out.size (.cells (endW.map fun l => Value.string ⟨l.toArray⟩).toArray 9))
   clear hv0 HB0
   go_enter Tryz.func59, Tryz.ntmps59
   go_wp2_with (first | (go_at_call 42; refine HC.out.mono ?_; rintro e w1 ⟨rfl, q, rfl⟩))
   go_ret
   exact ⟨ret_bool HV.out.symm, below_draws HB1.out q⟩
 have b2 : ((k : Int) == 2) = false := beq_eq_false_iff_ne.2 (by omega)
 rw [if_neg k2] at hv0
 by_cases k6 : k = 6
 case neg =>
  have b6 : ((k : Int) == 6) = false := beq_eq_false_iff_ne.2 (by omega)
  rw [if_neg k6] at hv0
  have HV := Lib.hid hv0
  clear hv0
  go_enter Tryz.func59, Tryz.ntmps59
  go_wp2_with fail
  go_ret
  exact ⟨ret_bool HV.out.symm, HB0.out⟩
 rw [if_pos k6] at hv0
 have b6 : ((k : Int) == 6) = true := beq_iff_eq.2 (by omega)
 clear k1 k2 k3 k4 k5 k6
 by_cases t1 : t.data.toList = [41]
 · have s1 : t.toList = [41] := (str_eq t _).2 t1
   have s2 : (t.toList == [41]) = true := by rw [s1]; rfl
   have HV := Lib.hid (show endsR k t.data.toList = true by rw [hv0, decide_eq_true t1]; rfl)
   clear hv0 t1
   go_enter Tryz.func59, Tryz.ntmps59
   go_wp2_with fail
   go_ret
   exact ⟨ret_bool HV.out.symm, HB0.out⟩
 have s1 : ¬ t.toList = [41] := fun e => t1 ((str_eq t _).1 e)
 have s2 : (t.toList == [41]) = false := by simpa using s1
 by_cases t2 : t.data.toList = [125]
 · have s3 : t.toList = [125] := (str_eq t _).2 t2
   have s4 : (t.toList == [125]) = true := by rw [s3]; rfl
   have HV := Lib.hid (show endsR k t.data.toList = true by rw [hv0, decide_eq_true t2]; simp)
   clear hv0 t1 t2
   go_enter Tryz.func59, Tryz.ntmps59
   go_wp2_with fail
   go_ret
   exact ⟨ret_bool HV.out.symm, HB0.out⟩
 · have s3 : ¬ t.toList = [125] := fun e => t2 ((str_eq t _).1 e)
   have s4 : (t.toList == [125]) = false := by simpa using s3
   have HV := Lib.hid (show endsR k t.data.toList = false by rw [hv0, decide_eq_false t1, decide_eq_false t2]; rfl)
   clear hv0 t1 t2
   go_enter Tryz.func59, Tryz.ntmps59
   go_wp2_with fail
   go_ret
   exact ⟨ret_bool HV.out.symm, HB0.out⟩
end

section
open Go.RowKit
set_option linter.unusedVariables false
set_option linter.unusedSimpArgs false
theorem rmarks (w : World) : Calls Tryz.prog 63 #[] w fun e w' => e = .returned (.slice (some ⟨w.heap.size, 0, none⟩) 23 23) ∧ w' = w.alloc (.cells ((marks2 ++ marks1).map fun l => Value.string ⟨l.toArray⟩).toArray 9) := by
 go_enter Tryz.func63, Tryz.ntmps63
 go_wp2_with fail
 go_ret
 exact ⟨rfl, rfl⟩
end

section
open Go.RowKit
set_option linter.unusedVariables false
set_option linter.unusedSimpArgs false
theorem endsR_is (t : Tk) : endsR t.kind t.text = endsV t := by
 unfold endsR endsV hasB
 by_cases h1 : t.kind = 1 ∨ t.kind = 3 ∨ t.kind = 4 ∨ t.kind = 5
 · rw [if_pos h1]
   rcases h1 with h | h | h | h <;> simp [h]
 · rw [if_neg h1]
   simp only [not_or] at h1
   by_cases h2 : t.kind = 2
   · simp [h2]
   · rw [if_neg h2]
     by_cases h6 : t.kind = 6
     · simp [h6]
     · simp [h1.1, h1.2.1, h1.2.2.1, h1.2.2.2, h2, h6]
theorem info31 : (Tryz.prog.info? 31).map (fun i => (i.zero, i.size, i.bytes)) = some (some (.agg #[.int .i64 0, .string ⟨#[]⟩, .int .i64 0, .int .i64 0]), 4, 40) := by kernel_rfl
/-- How many tokens the line has, and its last one. -/
def LineIs (last : Option Tk) (many : Nat) (acc : List Tk) : Prop := match last with
 | none => many = 0
 | some t => 0 < many ∧ ∃ a, acc = a ++ [t]
theorem own_slice5 {w : World} {B : Nat} {v : Value} {l : List Tk} {T : TypeId} (h : Own tkC 4 T w B v l) : ∃ ao n cap, v = .slice ao n cap := by
 rcases h.2 with ⟨hv, _⟩ | ⟨g, cap, cur, hv, _⟩
 · exact ⟨_, _, _, hv⟩
 · exact ⟨_, _, _, hv⟩
/-- The cells of a token of a row. -/
theorem own_tok {w : World} {B : Nat} {v : Value} {l : List Tk} {T : TypeId} (h : Own tkC 4 T w B v l) {i : Nat} {t : Tk} (ht : l[i]? = some t) :
  ∃ g cap, v = .slice (some ⟨g, 0, none⟩) l.length cap ∧ g < w.heap.size ∧ B ≤ g ∧ w.cell? ⟨g, i * 4, none⟩ = some (.int .i64 (t.kind : Int)) ∧ w.cell? ⟨g, i * 4 + 1, none⟩ = some (.string (toBA t.text)) ∧
   w.cell? ⟨g, i * 4 + 2, none⟩ = some (.int .i64 (t.fr : Int)) ∧ w.cell? ⟨g, i * 4 + 3, none⟩ = some (.int .i64 (t.ed : Int)) := by
 have hl : 0 < l.length := by have := (List.getElem?_eq_some_iff.1 ht).1; omega
 obtain ⟨A, c, hv, hr⟩ := Own.row tkC_len h
 obtain ⟨g, off, rfl, hg, hc⟩ := hr hl
 have hoff : off = 0 := by
  rcases h.2 with ⟨hv2, _⟩ | ⟨g2, cap, cur, hv2, _⟩
  · rw [hv] at hv2; injection hv2 with e1; cases e1
  · rw [hv] at hv2; injection hv2 with e1; injection e1 with e1; injection e1
 subst hoff
 have hB := (h.lt g (by rw [hv]; rfl)).1
 have k0 := hc i t ht 0 _ rfl
 have k1 := hc i t ht 1 _ rfl
 have k2 := hc i t ht 2 _ rfl
 have k3 := hc i t ht 3 _ rfl
 rw [Nat.zero_add] at k0 k1 k2 k3
 exact ⟨g, c, hv, hg, hB, k0, k1, k2, k3⟩
set_option maxRecDepth 100000 in
set_option maxHeartbeats 3200000 in
theorem rput (B : Nat) (v : Value) (acc : List Tk) (last : Option Tk) (many : Nat) (w : World) (hB : B ≤ w.heap.size) (hown : Own tkC 4 31 w B v acc) (hl : acc.length ≤ 1000000) (hm : LineIs last many acc) :
  Calls Tryz.prog 33 #[v, .int .i64 (many : Int)] w fun e w' => ∃ v', e = .returned v' ∧ Own tkC 4 31 w' B v' (closeV acc last) ∧ Below B w w' := by
 have HO := Lib.hid hown
 cases last with
 | none =>
  obtain rfl : many = 0 := hm
  obtain ⟨ao, n, cap, rfl⟩ := own_slice5 hown
  clear hown
  go_enter Tryz.func33, Tryz.ntmps33
  go_wp2_with fail
  go_ret
  exact ⟨_, rfl, HO.out, Below.refl _ _⟩
 | some t =>
  obtain ⟨hm0, a, rfl⟩ := hm
  obtain ⟨g, cap, rfl, hg, hBg, c0, c1, c2, c3⟩ := own_tok hown (i := a.length) (t := t) (by simp)
  have hlen : (a ++ [t]).length = a.length + 1 := by simp
  rw [hlen] at hl
  rw [hlen] at HO ⊢
  have hmz : ((many : Int) == 0) = false := beq_eq_false_iff_ne.2 (by omega)
  obtain ⟨i31, hi31, hz0, hz1, hz2⟩ := info_cut info31
  obtain ⟨k, hk⟩ : ∃ k, t.kind = k := ⟨_, rfl⟩
  obtain ⟨tx, htx⟩ : ∃ tx, toBA t.text = tx := ⟨_, rfl⟩
  obtain ⟨p, hp⟩ : ∃ p, t.fr = p := ⟨_, rfl⟩
  obtain ⟨q, hq⟩ : ∃ q, t.ed = q := ⟨_, rfl⟩
  have HE := Lib.hid (fun w => rends k tx p q w)
  have hev : endsR k tx.data.toList = endsV t := by rw [← hk, ← htx, toBA_list]; exact endsR_is t
  rw [hev] at HE
  have HBL := Lib.hid ((Below.refl B w).alloc hB (.cells #[.int .i64 (k : Int), .string tx, .int .i64 (p : Int), .int .i64 (q : Int)] 31))
  have HA := Lib.hid (heap_alloc_new w (.cells #[.int .i64 (k : Int), .string tx, .int .i64 (p : Int), .int .i64 (q : Int)] 31))
  rw [hk] at c0
  rw [htx] at c1
  rw [hp] at c2
  rw [hq] at c3
  unfold tokV at HE
  cases he : endsV t with
  | false =>
   rw [he] at HE
   have HV := Lib.hid (show closeV (a ++ [t]) (some t) = a ++ [t] from if_neg (by rw [he]; simp))
   clear hev hk htx hp hq he hown hlen hm0
   go_enter Tryz.func33, Tryz.ntmps33
   go_wp2_with (first | (go_at_call 59; refine (HE.out _).mono ?_; rintro e w1 ⟨rfl, hb1⟩; have HB1 := Lib.hid hb1; clear hb1))
   go_ret
   exact ⟨_, rfl, by rw [HV.out]; exact (HO.out.alloc _).below HB1.out, HBL.out.trans (HB1.out.mono (Nat.le_trans hB HBL.out.size))⟩
  | true =>
   rw [he] at HE
   have HV := Lib.hid (show closeV (a ++ [t]) (some t) = (a ++ [t]) ++ [⟨7, [], q, q⟩] by rw [← hq]; exact if_pos he)
   clear hev hk htx hp hq he hown hlen hm0
   go_enter Tryz.func33, Tryz.ntmps33
   go_wp2_with (first | (go_at_call 59; refine (HE.out _).mono ?_; rintro e w1 ⟨rfl, hb1⟩; obtain ⟨d0, d1, d2, d3, dz, dl⟩ := tcells (blk_below HA.out hb1); have HO1 := Lib.hid ((HO.out.alloc _).below hb1); have HB1 := Lib.hid (HBL.out.trans (hb1.mono (Nat.le_trans hB HBL.out.size))); clear hb1) | (at_builtin; go_must (refine wpList_append_one (cs := tkC) rfl _ _ 27 rfl 31 i31 _ 40 Tryz.underlying27 hi31 hz0 hz1 hz2 rfl (by decide) tkC_len tkC_one w1 B w1.heap.size _ (a ++ [t]) ⟨7, [], q, q⟩ _ rfl (by rfl) (by rfl) rfl HO1.out (by unfold maxLen; simp; omega) (by simp; omega) (Nat.le_trans hB HB1.out.size) ?_); intro v' w2 hown' hgrow hat; obtain ⟨ao, n', cap2, rfl⟩ := own_slice5 hown'; have HO2 := Lib.hid hown'; have HB2 := Lib.hid (below_grown HB1.out HO1.out (Nat.le_trans hB HB1.out.size) hgrow); clear hown' hgrow hat))
   go_ret
   exact ⟨_, rfl, by rw [HV.out]; exact HO2.out, HB2.out⟩
end
end Go.Proofs.YtclbmmiedihepaaGreatDoor
