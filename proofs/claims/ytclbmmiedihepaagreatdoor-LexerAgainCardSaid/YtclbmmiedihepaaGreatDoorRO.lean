/- The law LexerAgain, walked. -/
import Derived.Test.YtclbmmiedihepaaGreatDoorRM
namespace Go.Proofs.YtclbmmiedihepaaGreatDoor
open Go.RowKit
set_option linter.unusedVariables false
set_option linter.unusedSimpArgs false
theorem again_snoc : ∀ (l : List Tk) (t : Tk), againV (l ++ [t]) = againV l ++ (if t.kind = 7 ∧ t.text = [] then [10] else t.text ++ [32])
 | [], t => by simp [againV]
 | u :: l, t => by rw [List.cons_append, againV, again_snoc l t, againV, List.append_assoc]
theorem again_take {l : List Tk} {k : Nat} {t : Tk} (h : l[k]? = some t) : againV (l.take (k + 1)) = againV (l.take k) ++ (if t.kind = 7 ∧ t.text = [] then [10] else t.text ++ [32]) := by
 rw [List.take_add_one, h]; exact again_snoc _ _
theorem again_len_le : ∀ (l : List Tk) (k : Nat), (againV (l.take k)).length ≤ (againV l).length
 | [], k => by simp [againV]
 | t :: l, 0 => by simp [againV]
 | t :: l, k + 1 => by
  rw [List.take_succ_cons, againV, againV, List.length_append, List.length_append]
  have := again_len_le l k; omega
theorem toBA_app (x y : BL) : toBA x ++ toBA y = toBA (x ++ y) := by
 apply ByteArray.ext
 simp [toBA]
theorem relex_all {L : BL} {l : List Tk} (hb : brkV L 0 = none) (hl : lexV eFv L 0 [] none = .ok l) (hL : L.length ≤ 6000) : (againV l).length ≤ 18000 ∧ l.length ≤ 12001 ∧ ∃ m, tokensV (againV l) = .ok m ∧ m.map kt = l.map kt := by
 obtain ⟨r, hr, hrun⟩ := lex_run eFv L _ 0 [] none l (Nat.le_refl _) hl
 rw [List.nil_append] at hr
 subst hr
 obtain ⟨r2, hr2, hok, hal, hll⟩ := lex_ok eFv L hb _ 0 [] none l (Nat.le_refl _) hl
 rw [List.nil_append] at hr2
 subst hr2
 simp only [if_true] at hal hll
 obtain ⟨m, h1, h2⟩ := relex hrun (againV l) [] [] none rfl (.inr ⟨rfl, fun u hu => by cases hu⟩)
 refine ⟨by omega, by omega, m, ?_, h2⟩
 exact tokens_of (by omega) (again_ok hok) h1
set_option maxRecDepth 100000 in
set_option maxHeartbeats 6400000 in
theorem lawAgain (s : ByteArray) (w : World) (hs : s.size ≤ 9223372036854775807) (hG : LexG w) :
  Calls Tryz.prog 4 #[.string s] w fun e w' => e = .returned (.bool true) ∧ Below w.heap.size w w' := by
 have HC := Lib.hid (lcut6 s w hs)
 have HG := Lib.hid hG
 clear hG
 go_enter Tryz.func4, Tryz.ntmps4
 go_wp2_with fail
 refine HC.out.mono ?_
 rintro e w1 ⟨⟨t, rfl, ht⟩, rfl⟩
 have htl : t.data.toList.length = t.size := rfl
 rcases tokens_small (L := t.data.toList) (by omega) with ⟨l, htv, hbr, hlx⟩ | ⟨p, er, htv, hp, her⟩
 case inr =>
  have HT := Lib.hid (tokens_no t w1 HG.out htv)
  have hen : (er == 0) = false := beq_eq_false_iff_ne.2 her
  have hen2 : (er != 0) = true := by simp only [bne, hen]; rfl
  clear htv hp her htl
  go_wp2_with fail
  refine HT.out.mono ?_
  rintro e w2 ⟨rfl, hb⟩
  have HB2 := Lib.hid hb
  clear hb
  go_wp2_with fail
  refine (lawake _ (HG.out.below HB2.out)).mono ?_
  rintro e w4 ⟨rfl, hb⟩
  have HB4 := Lib.hid (below_then HB2.out hb)
  clear hb
  go_wp2_with fail
  go_ret
  exact ⟨rfl, HB4.out⟩
 case inl =>
  have HT := Lib.hid (tokens_yes t w1 HG.out htv)
  obtain ⟨hA1, hll, m, hm1, hm2⟩ := relex_all hbr hlx (by omega)
  have HM1 := Lib.hid hm1
  have HM2 := Lib.hid hm2
  have HA1 := Lib.hid hA1
  have hml : m.length = l.length := by have := congrArg List.length hm2; simpa using this
  clear htv hbr hlx htl hm1 hm2 hA1
  go_wp2_with fail
  refine HT.out.mono ?_
  rintro e w2 ⟨⟨v, rfl, hown⟩, hb2⟩
  obtain ⟨A, cap, rfl, hcell⟩ := own_all hown
  have HL := Lib.hid hcell
  have HB2 := Lib.hid hb2
  clear hown hcell hb2
  go_wp2_with fail
  go_loopw [6, 7] (fun av iv wr => ∃ k : Nat, k ≤ l.length ∧ av = .string (toBA (againV (l.take k))) ∧ iv = .int .i64 k ∧ wr = w2) (fun _ iv _ => l.length - (intOf iv).toNat)
  case atStart => exact ⟨0, Nat.zero_le _, rfl, rfl, rfl⟩
  case round =>
   obtain ⟨k, hk, rfl, rfl, rfl⟩ := hrel
   have hbd : (toBA (againV (l.take k))).size ≤ 18000 := by have := again_len_le l k; have := HA1.out; rw [toBA_size]; omega
   by_cases hlt : k < l.length
   case neg =>
    have hlt2 : ¬ (k : Int) < (l.length : Int) := by omega
    rw [List.take_of_length_le (by omega)] at hbd ⊢
    have HT2 := Lib.hid (fun w h => tokens_yes (toBA (againV l)) w h (l := m) (by rw [toBA_list]; exact HM1.out))
    generalize toBA (againV l) = AG at *
    go_wp2_with fail
    refine (HT2.out _ (HG.out.below HB2.out)).mono ?_
    rintro e w3 ⟨⟨v3, rfl, hown3⟩, hb3⟩
    obtain ⟨A3, cap3, rfl, hcell3⟩ := own_all hown3
    rw [hml]
    have HL3 := Lib.hid hcell3
    have HB3 := Lib.hid (below_then HB2.out hb3)
    have HB23 := Lib.hid hb3
    clear hown3 hcell3 hb3
    have hnn : ((l.length : Int) != (l.length : Int)) = false := by simp
    go_wp2_with fail
    go_loopw [11] (fun iv wx => ∃ k : Nat, k ≤ l.length ∧ iv = .int .i64 k ∧ ∃ q, wx = w3.drewN q) (fun iv _ => l.length - (intOf iv).toNat)
    case atStart => exact ⟨0, Nat.zero_le _, rfl, 0, rfl⟩
    case round =>
     obtain ⟨j, hj, rfl, q, rfl⟩ := hrel
     by_cases hlt : j < l.length
     · have hlt2 : (j : Int) < (l.length : Int) := by omega
       have hk0 : (0 : Int) ≤ (j : Int) := by omega
       obtain ⟨y, hy⟩ : ∃ y, l[j]? = some y := ⟨_, List.getElem?_eq_getElem hlt⟩
       obtain ⟨z, hz⟩ : ∃ z, m[j]? = some z := ⟨_, List.getElem?_eq_getElem (by omega)⟩
       have hyz : kt z = kt y := by
        have := congrArg (fun l => l[j]?) HM2.out
        simp only [List.getElem?_map, hy, hz, Option.map_some, Option.some.injEq] at this
        exact this
       have hk1 : z.kind = y.kind := congrArg Prod.fst hyz
       have hk2 : z.text = y.text := congrArg Prod.snd hyz
       obtain ⟨g, rfl, hg, c0, c1, _, _⟩ := HL.out j y hy
       obtain ⟨g3, rfl, hg3, d0, d1, _, _⟩ := HL3.out j z hz
       rw [hk1] at d0
       rw [hk2] at d1
       have e0 : w3.cell? ⟨g, j * 4, none⟩ = _ := (Below.cell HB23.out hg).trans c0
       have e1 : w3.cell? ⟨g, j * 4 + 1, none⟩ = _ := (Below.cell HB23.out hg).trans c1
       clear hy hz hyz hk1 hk2 c0 c1
       generalize toBA y.text = tx at *
       generalize y.kind = kd at *
       have n1 : ((kd : Int) != (kd : Int)) = false := by simp
       have n2 : (tx.toList != tx.toList) = false := by simp
       go_wp2_with fail
       go_quiet (fail)
       generalize hWq : World.drewN _ _ = wq
       have hq2 : ∃ q2, wq = w3.drewN q2 := by
        rw [← hWq]; first | exact ⟨_, rfl⟩ | exact ⟨_, World.drewN_drewN _ _ _⟩
       clear hWq
       go_wp2_with fail
       go_roundw
       case rel => exact ⟨j + 1, by omega, by go_num, hq2⟩
       case measure => simp only [intOf]; omega
     · have hlt2 : ¬ (j : Int) < (l.length : Int) := by omega
       go_wp2_with fail
       refine (lawake _ (HG.out.below (below_draws HB3.out q))).mono ?_
       rintro e w4 ⟨rfl, hb⟩
       have HB4 := Lib.hid (below_then (below_draws HB3.out q) hb)
       clear hb
       go_wp2_with fail
       go_ret
       exact ⟨rfl, HB4.out⟩
   have hlt2 : (k : Int) < (l.length : Int) := by omega
   have hk0 : (0 : Int) ≤ (k : Int) := by omega
   obtain ⟨y, hy⟩ : ∃ y, l[k]? = some y := ⟨_, List.getElem?_eq_getElem hlt⟩
   obtain ⟨g, rfl, hg, c0, c1, _, _⟩ := HL.out k y hy
   have hbd2 : (toBA (againV (l.take (k + 1)))).size ≤ 18000 := by have := again_len_le l (k + 1); have := HA1.out; rw [toBA_size]; omega
   have hat := again_take hy
   obtain ⟨P, hP⟩ : ∃ P, againV (l.take k) = P := ⟨_, rfl⟩
   rw [hP] at hat hbd ⊢
   by_cases h7 : y.kind = 7
   · rw [h7] at c0
     by_cases htx : y.text = []
     · rw [if_pos ⟨h7, htx⟩] at hat
       rw [htx] at c1
       have HR := Lib.hid (show toBA P ++ ⟨#[10]⟩ = toBA (againV (l.take (k + 1))) by rw [hat, ← toBA_app]; rfl)
       have hbl : (toBA P).size + 1 ≤ 18000 := by rw [hat, ← toBA_app, ByteArray.size_append] at hbd2; exact hbd2
       rw [show toBA [] = ⟨#[]⟩ from rfl] at c1
       clear hat hy h7 htx hbd2 hP
       generalize toBA P = PP at *
       go_wp2_with fail
       go_roundw
       case rel => exact ⟨k + 1, by omega, by rw [← HR.out], by go_num, trivial⟩
       case measure => simp only [intOf]; omega
     · rw [if_neg (fun h => htx h.2)] at hat
       have HR := Lib.hid (show toBA P ++ toBA y.text ++ ⟨#[32]⟩ = toBA (againV (l.take (k + 1))) by rw [hat, ← toBA_app, ← toBA_app, ← ByteArray.append_assoc]; rfl)
       have hbl : (toBA P).size + ((toBA y.text).size + 1) ≤ 18000 := by rw [hat, ← toBA_app, ← toBA_app, ByteArray.size_append, ByteArray.size_append] at hbd2; exact hbd2
       have t0 : 0 < (toBA y.text).size := by rw [toBA_size]; exact List.length_pos_iff.2 htx
       have t1 := toList_ne t0
       have t3 : (toBA y.text).toList.isEmpty = false := by simpa using t1
       have t4 : ((toBA y.text).toList == []) = false := by simpa using t1
       clear hat hy h7 htx hbd2 hP
       generalize toBA P = PP at *
       generalize toBA y.text = tx at *
       go_wp2_with fail
       go_roundw
       case rel => exact ⟨k + 1, by omega, by rw [← HR.out], by go_num, trivial⟩
       case measure => simp only [intOf]; omega
   · rw [if_neg (fun h => h7 h.1)] at hat
     have HR := Lib.hid (show toBA P ++ toBA y.text ++ ⟨#[32]⟩ = toBA (againV (l.take (k + 1))) by rw [hat, ← toBA_app, ← toBA_app, ← ByteArray.append_assoc]; rfl)
     have hbl : (toBA P).size + ((toBA y.text).size + 1) ≤ 18000 := by rw [hat, ← toBA_app, ← toBA_app, ByteArray.size_append, ByteArray.size_append] at hbd2; exact hbd2
     have b7 : ((y.kind : Int) == 7) = false := beq_eq_false_iff_ne.2 (by omega)
     clear hat hy h7 hbd2 hP
     generalize toBA P = PP at *
     generalize toBA y.text = tx at *
     generalize y.kind = kd at *
     go_wp2_with fail
     go_roundw
     case rel => exact ⟨k + 1, by omega, by rw [← HR.out], by go_num, trivial⟩
     case measure => simp only [intOf]; omega
end Go.Proofs.YtclbmmiedihepaaGreatDoor
