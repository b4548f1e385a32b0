/- The law LexerTiles, walked. -/
import Derived.Test.YtclbmmiedihepaaGreatDoorRX
namespace Go.Proofs.YtclbmmiedihepaaGreatDoor
open Go.RowKit
set_option linter.unusedVariables false
set_option linter.unusedSimpArgs false
theorem tokens_small {L : BL} (h : L.length ≤ 6000) : (∃ l, tokensV L = .ok l ∧ brkV L 0 = none ∧ lexV eFv L 0 [] none = .ok l) ∨ ∃ p er, tokensV L = .error (p, er) ∧ p < L.length ∧ er ≠ 0 := by
 unfold tokensV
 rw [if_neg (by omega)]
 cases hb : brkV L 0 with
 | some k =>
  refine .inr ⟨k, 8, rfl, ?_, by decide⟩
  have : ∀ (f k0 : Nat), L.length - k0 ≤ f → brkV L k0 = some k → k < L.length := by
   intro f
   induction f with
   | zero => intro k0 hf h0; rw [brkV_end (by omega)] at h0; cases h0
   | succ f ih =>
    intro k0 hf h0
    by_cases hlt : k0 < L.length
    · by_cases hz : stepV (L.drop k0) = 0
      · rw [brkV_zero hlt hz] at h0; cases h0; exact hlt
      · rw [brkV_step hlt hz] at h0; exact ih _ (by omega) h0
    · rw [brkV_end (by omega)] at h0; cases h0
  exact this _ 0 (Nat.le_refl _) hb
 | none =>
  simp only
  cases hl : lexV eFv L 0 [] none with
  | ok l => exact .inl ⟨l, rfl, by first | rfl | trivial, by first | rfl | exact hl⟩
  | error pe =>
   obtain ⟨p, er⟩ := pe
   obtain ⟨h1, h2⟩ := lex_err eFv L _ 0 [] none p er (Nat.le_refl _) hl
   exact .inr ⟨p, er, rfl, h1, h2⟩
theorem ext_ab (s : ByteArray) {i j : Nat} (h : i ≤ j) : (s.extract i j).data.toList = (s.data.toList.drop i).take (j - i) := by
 obtain ⟨n, rfl⟩ : ∃ n, j = i + n := ⟨j - i, by omega⟩
 rw [exm_list, Nat.add_sub_cancel_left]
theorem ext_le (s : ByteArray) (i j : Nat) (h : i ≤ j) : (s.extract i j).size ≤ s.size := by
 show (s.extract i j).data.toList.length ≤ _
 rw [ext_ab s h, List.length_take, List.length_drop]; show min (j - i) (s.size - i) ≤ s.size; omega
/-- Where the token ahead of a place in a row ends. -/
def PrevIs (l : List Tk) (k : Nat) (p : Option Nat) : Prop := match k with
 | 0 => p = none
 | j + 1 => ∃ u, l[j]? = some u ∧ p = some u.ed
set_option maxRecDepth 100000 in
set_option maxHeartbeats 6400000 in
theorem lawTiles (s : ByteArray) (w : World) (hs : s.size ≤ 9223372036854775807) (hG : LexG w) :
  Calls Tryz.prog 5 #[.string s] w fun e w' => e = .returned (.bool true) ∧ Below w.heap.size w w' := by
 have HC := Lib.hid (lcut6 s w hs)
 have HG := Lib.hid hG
 clear hG
 go_enter Tryz.func5, Tryz.ntmps5
 go_wp2_with fail
 refine HC.out.mono ?_
 rintro e w1 ⟨⟨t, rfl, ht⟩, rfl⟩
 have htl : t.data.toList.length = t.size := rfl
 rcases tokens_small (L := t.data.toList) (by omega) with ⟨l, htv, hbr, hlx⟩ | ⟨p, er, htv, hp, her⟩
 case inr =>
  have HT := Lib.hid (tokens_no t w1 HG.out htv)
  have hen : (er == 0) = false := beq_eq_false_iff_ne.2 her
  have hen2 : (er != 0) = true := by simp only [bne, hen]; rfl
  have hp0 : (0 : Int) ≤ (p : Int) := by omega
  have hp1 : (p : Int) < (t.size : Int) := by omega
  clear htv hp her htl
  go_wp2_with fail
  refine HT.out.mono ?_
  rintro e w2 ⟨rfl, hb⟩
  have HB2 := Lib.hid hb
  clear hb
  go_wp2_with fail
  refine (lawake _ (HG.out.below HB2.out)).mono ?_
  rintro e w4 ⟨rfl, hb⟩
  have HB4 := Lib.hid (below_then HB2.out hb)
  clear hb
  go_wp2_with fail
  go_ret
  exact ⟨rfl, HB4.out⟩
 case inl =>
  have HT := Lib.hid (tokens_yes t w1 HG.out htv)
  obtain ⟨r, hr, htiles⟩ := lex_tiles eFv t.data.toList _ 0 [] none l 0 none (Nat.le_refl _) (Nat.zero_le _) (Nat.le_refl _) (fun n _ _ h => h) (fun u hu => by cases hu) hlx
  rw [List.nil_append] at hr
  subst hr
  obtain ⟨r2, hr2, _, _, hll⟩ := lex_ok eFv t.data.toList hbr _ 0 [] none l (Nat.le_refl _) hlx
  rw [List.nil_append] at hr2
  subst hr2
  have hll : l.length ≤ 12001 := by simp only [if_true] at hll; omega
  have HTI := Lib.hid htiles
  have HTLN := Lib.hid htl
  clear htv hbr hlx htl htiles
  go_wp2_with fail
  refine HT.out.mono ?_
  rintro e w2 ⟨⟨v, rfl, hown⟩, hb2⟩
  obtain ⟨A, cap, rfl, hcell⟩ := own_all hown
  have HL := Lib.hid hcell
  have HB2 := Lib.hid hb2
  have HBR := Lib.hid (Below.refl w2.heap.size w2)
  clear hown hcell hb2
  go_wp2_with fail
  go_loopw [6, 7] (fun av iv wr => ∃ (k a : Nat) (p : Option Nat), k ≤ l.length ∧ a ≤ t.size ∧ av = .int .i64 a ∧ iv = .int .i64 k ∧ tilesV t.data.toList a p (l.drop k) ∧ PrevIs l k p ∧ Below w2.heap.size w2 wr) (fun _ iv _ => l.length - (intOf iv).toNat)
  case atStart => exact ⟨0, 0, none, Nat.zero_le _, Nat.zero_le _, rfl, rfl, HTI.out, rfl, HBR.out⟩
  case round =>
   obtain ⟨k, a, p, hk, ha, rfl, rfl, hti, hpv, hbe⟩ := hrel
   have HBE := Lib.hid hbe
   clear hbe
   by_cases hlt : k < l.length
   case neg =>
    have hlt2 : ¬ (k : Int) < (l.length : Int) := by omega
    have hle : (a : Int) ≤ (t.size : Int) := by omega
    rw [List.drop_of_length_le (by omega)] at hti
    have HI := Lib.hid (fun w => lidle (t.extract a t.size) w (by rw [ext_size]; omega))
    rw [ext_list, show idleV (t.data.toList.drop a) = true from hti] at HI
    clear hti hpv
    go_wp2_with fail
    refine (HI.out _).mono ?_
    rintro e w3 ⟨rfl, rfl⟩
    go_wp2_with fail
    refine (lawake _ (HG.out.below (HB2.out.trans (HBE.out.mono HB2.out.size)))).mono ?_
    rintro e w4 ⟨rfl, hb⟩
    have HB4 := Lib.hid (below_then (HB2.out.trans (HBE.out.mono HB2.out.size)) hb)
    clear hb
    go_wp2_with fail
    go_ret
    exact ⟨rfl, HB4.out⟩
   have hlt2 : (k : Int) < (l.length : Int) := by omega
   have hk0 : (0 : Int) ≤ (k : Int) := by omega
   obtain ⟨y, hy⟩ : ∃ y, l[k]? = some y := ⟨_, List.getElem?_eq_getElem hlt⟩
   rw [List.drop_eq_getElem_cons hlt, (List.getElem?_eq_some_iff.1 hy).2] at hti
   obtain ⟨t1, t2, t3, t4, t5, t6, t7⟩ := hti
   rw [HTLN.out] at t3
   have HY := Lib.hid hy
   obtain ⟨g, rfl, hg, c0, c1, c2, c3⟩ := HL.out k y hy
   obtain ⟨kd, hkd⟩ : ∃ kd, y.kind = kd := ⟨_, rfl⟩
   obtain ⟨tx, htx⟩ : ∃ tx, toBA y.text = tx := ⟨_, rfl⟩
   obtain ⟨fr, hfr⟩ : ∃ fr, y.fr = fr := ⟨_, rfl⟩
   obtain ⟨ed, hed⟩ : ∃ ed, y.ed = ed := ⟨_, rfl⟩
   rw [hkd] at c0 t6
   rw [htx] at c1
   rw [hfr] at c2 t1 t2 t4 t5 t6
   rw [hed] at c3 t2 t3 t4 t6 t7
   have e0 : wr.cell? ⟨g, k * 4, none⟩ = _ := (Below.cell HBE.out hg).trans c0
   have e1 : wr.cell? ⟨g, k * 4 + 1, none⟩ = _ := (Below.cell HBE.out hg).trans c1
   have e2 : wr.cell? ⟨g, k * 4 + 2, none⟩ = _ := (Below.cell HBE.out hg).trans c2
   have e3 : wr.cell? ⟨g, k * 4 + 3, none⟩ = _ := (Below.cell HBE.out hg).trans c3
   have HA := Lib.hid (heap_alloc_new wr (.cells #[.int .i64 (kd : Int), .string tx, .int .i64 (fr : Int), .int .i64 (ed : Int)] 32))
   have HBA := Lib.hid (HBE.out.alloc HBE.out.size (.cells #[.int .i64 (kd : Int), .string tx, .int .i64 (fr : Int), .int .i64 (ed : Int)] 32))
   have n1 : ¬ (fr : Int) < (a : Int) := by omega
   have n2 : ¬ (ed : Int) < (fr : Int) := by omega
   have n3 : ¬ (t.size : Int) < (ed : Int) := by omega
   have q1 : decide ((fr : Int) < (a : Int)) = false := decide_eq_false n1
   have q2 : decide ((ed : Int) < (fr : Int)) = false := decide_eq_false n2
   have q3 : decide ((t.size : Int) < (ed : Int)) = false := decide_eq_false n3
   have q1' : decide (fr < a) = false := decide_eq_false (by omega)
   have q2' : decide (ed < fr) = false := decide_eq_false (by omega)
   have q3' : decide (t.size < ed) = false := decide_eq_false (by omega)
   have m1 : (a : Int) ≤ (fr : Int) := by omega
   have m2 : (fr : Int) ≤ (ed : Int) := by omega
   have m3 : (ed : Int) ≤ (t.size : Int) := by omega
   have m4 : (fr : Int) ≤ (t.size : Int) := by omega
   obtain ⟨X, hX⟩ : ∃ X, t.extract fr ed = X := ⟨_, rfl⟩
   have hXl : X.toList = tx.toList := by rw [ByteArray.toList_eq, ByteArray.toList_eq, ← hX, ← htx, toBA_list, ext_ab t t2, t4]
   have hXb : (X.toList == tx.toList) = true := by rw [hXl]; simp
   have hXc : (X.toList != tx.toList) = false := by simp only [bne, hXb]; rfl
   have HI := Lib.hid (fun w => lidle (t.extract a fr) w (by have := ext_le t a fr t1; omega))
   rw [ext_ab t t1, t5] at HI
   have HT7 := Lib.hid t7
   have HPV := Lib.hid (show PrevIs l (k + 1) (some ed) from ⟨y, hy, by rw [hed]⟩)
   clear hy c0 c1 c2 c3 hkd htx hfr hed t4 t5 t7
   by_cases hfe : fr = ed
   · obtain ⟨k7, hp7⟩ := t6 hfe
     subst k7 hfe
     have hX0 : X.toList = [] := by rw [ByteArray.toList_eq, ← hX, ext_ab t (Nat.le_refl _), Nat.sub_self, List.take_zero]
     have htx0 : tx.toList = [] := by rw [← hXl, hX0]
     have g1 : ([] == tx.toList) = true := by rw [htx0]; rfl
     have g2 : (tx.toList == []) = true := by rw [htx0]; rfl
     have g3 : tx.toList.isEmpty = true := by rw [htx0]; rfl
     have g4 : ByteArray.empty.toList = tx.toList := by rw [htx0, ByteArray.toList_eq]; rfl
     have g5 : (ByteArray.empty.toList == tx.toList) = true := by rw [g4]; simp
     have g6 : (ByteArray.empty.toList != tx.toList) = false := by simp only [bne, g5]; rfl
     cases k with
     | zero => rw [show p = none from hpv] at hp7; cases hp7
     | succ j =>
      obtain ⟨u, hu, hpu⟩ := hpv
      rw [hp7] at hpu
      obtain ⟨g', hg', _, _, _, _, u3⟩ := HL.out j u hu
      injection hg' with hg'
      injection hg' with hg'
      subst hg'
      have e4 : wr.cell? ⟨g, j * 4 + 3, none⟩ = _ := (Below.cell HBE.out hg).trans u3
      rw [← Option.some.inj hpu] at e4
      have e5 : (wr.alloc (.cells #[.int .i64 (7 : Int), .string tx, .int .i64 (fr : Int), .int .i64 (fr : Int)] 32)).cell? ⟨g, j * 4 + 3, none⟩ = some (.int .i64 (fr : Int)) := by
       rw [← e4]; exact Below.cell ((Below.refl _ _).alloc (Nat.le_refl _) _) (Nat.lt_of_lt_of_le hg HBE.out.size)
      have j0 : (0 : Int) ≤ (j : Int) := by omega
      have j1 : (j : Int) < (l.length : Int) := by omega
      have j2 : (((j + 1 : Nat) : Int) == 0) = false := beq_eq_false_iff_ne.2 (by omega)
      have j3 : ((j : Int) + 1 == 0) = false := beq_eq_false_iff_ne.2 (by omega)
      clear hu hpu hp7 u3
      obtain ⟨d0, d1, d2, d3, dz, dl⟩ := tcells HA.out
      go_wp2_with fail
      go_quiet ((go_at_call 13; exact Calls.quiet_of_same (HI.out _)))
      generalize hWq : World.drewN _ _ = wq
      have HWQ := Lib.hid hWq
      obtain ⟨p0, p1, p2, p3, pz, pl⟩ := tcells (w := wq) (by rw [← hWq]; exact HA.out)
      clear hWq
      go_wp2_with fail
      go_roundw
      case rel => exact ⟨j + 1 + 1, fr, some fr, by omega, by omega, rfl, by go_num, HT7.out, HPV.out, by rw [← HWQ.out]; exact below_draws HBA.out _⟩
      case measure => simp only [intOf]; omega
   · have f1 : ((fr : Int) == (ed : Int)) = false := beq_eq_false_iff_ne.2 (by omega)
     have f2 : ((fr : Int) != (ed : Int)) = true := by simp only [bne, f1]; rfl
     have f3 : decide ((fr : Int) = (ed : Int)) = false := decide_eq_false (by omega)
     have f4 : decide (fr = ed) = false := decide_eq_false hfe
     have f5 : (fr == ed) = false := by simpa using hfe
     clear hpv t6
     obtain ⟨d0, d1, d2, d3, dz, dl⟩ := tcells HA.out
     go_wp2_with fail
     go_quiet ((go_at_call 13; exact Calls.quiet_of_same (HI.out _)))
     generalize hWq : World.drewN _ _ = wq
     have HWQ := Lib.hid hWq
     obtain ⟨p0, p1, p2, p3, pz, pl⟩ := tcells (w := wq) (by rw [← hWq]; exact HA.out)
     clear hWq
     go_wp2_with fail
     go_roundw
     case rel => exact ⟨k + 1, ed, some ed, by omega, by omega, rfl, by go_num, HT7.out, HPV.out, by rw [← HWQ.out]; exact below_draws HBA.out _⟩
     case measure => simp only [intOf]; omega
end Go.Proofs.YtclbmmiedihepaaGreatDoor
