/- The law LexerAlone, walked. -/
import Derived.Test.YtclbmmiedihepaaGreatDoorRX
namespace Go.Proofs.YtclbmmiedihepaaGreatDoor
open Go.RowKit
set_option linter.unusedVariables false
set_option linter.unusedSimpArgs false
theorem name_value {L : BL} (h : NameIs L) : valueL L = ([], 4) := by
 obtain ⟨c, r, rfl, _⟩ := h.hd
 have hc : c.toNat ≠ 34 := by
  have := ((spelt_all h.ne).1 h.sp).1
  obtain ⟨c', r', e, hl⟩ := this
  cases e
  simp only [isLet, Bool.or_eq_true, Bool.and_eq_true, decide_eq_true_eq] at hl
  omega
 unfold valueL; rw [quotV_head hc]
theorem value_tokens {L v : BL} (h : valueL L = (v, 0)) (hL : L.length ≤ 6000) : tokensV L = .ok [⟨5, L, 0, L.length⟩, ⟨7, [], L.length, L.length⟩] ∧ v.length + 2 ≤ L.length := by
 unfold valueL at h
 cases hq : quotV L with
 | none => rw [hq] at h; (have hh := congrArg Prod.snd h; simp at hh)
 | some vn =>
  obtain ⟨u, n⟩ := vn
  rw [hq] at h
  simp only at h
  split at h
  · rename_i hn
    split at h
    · (have hh := congrArg Prod.snd h; simp at hh)
    · rename_i hl
      have hu : u = v := congrArg Prod.fst h
      subst hu
      obtain ⟨_, h2, _⟩ := quotV_last hq
      exact ⟨tokens_of (by omega) ((valid_ok _ L (Nat.le_refl _)).1 hn.2) (lex_value hq hn.1 (by omega)), by omega⟩
  · (have hh := congrArg Prod.snd h; simp at hh)
theorem name_tokens {L : BL} (h : NameIs L) : tokensV L = .ok [⟨1, L, 0, L.length⟩, ⟨7, [], L.length, L.length⟩] := tokens_of (by have := h.le; omega) h.asc (lex_name h)
theorem names_tokens {L M : BL} (h : NameIs L) (g : NameIs M) : ∃ a b c d, tokensV (L ++ 32 :: M) = .ok [⟨1, L, 0, a⟩, ⟨1, M, b, c⟩, ⟨7, [], d, d⟩] := by
 obtain ⟨a, b, c, d, e⟩ := lex_names (eF := eFv) h g
 refine ⟨a, b, c, d, tokens_of ?_ ?_ e⟩
 · have := h.le; have := g.le; simp; omega
 · exact okV_app _ _ _ (Nat.le_refl _) h.asc ((okV_cons (by decide)).2 g.asc)
set_option maxRecDepth 100000 in
set_option maxHeartbeats 6400000 in
theorem lawAlone (s t : ByteArray) (w : World) (hs : s.size ≤ 9223372036854775807) (ht : t.size ≤ 9223372036854775807) (hG : LexG w) :
  Calls Tryz.prog 6 #[.string s, .string t] w fun e w' => e = .returned (.bool true) ∧ Below w.heap.size w w' := by
 have HC1 := Lib.hid (lcut6 s w hs)
 have HC2 := Lib.hid (fun w => lcut6 t w ht)
 have HG := Lib.hid hG
 clear hG
 go_enter Tryz.func6, Tryz.ntmps6
 go_wp2_with fail
 refine HC1.out.mono ?_
 rintro e w1 ⟨⟨S, rfl, hS⟩, rfl⟩
 go_wp2_with fail
 refine (HC2.out _).mono ?_
 rintro e w1 ⟨⟨T, rfl, hT⟩, rfl⟩
 have hSl : S.data.toList.length = S.size := rfl
 have hTl : T.data.toList.length = T.size := rfl
 have HN1 := Lib.hid (fun w => lName S w (by omega))
 have HN2 := Lib.hid (fun w => lName T w (by omega))
 have HV := Lib.hid (fun w h => lvalue S w (by omega) h)
 have HR := Lib.hid (fun w => lReserved S w)
 cases hn1 : nameV S.data.toList with
 | true =>
  have hN := name_is hn1
  rw [hn1] at HN1
  have hv := name_value hN
  rw [hv] at HV
  have hr := hN.rs
  rw [hr] at HR
  have HT := Lib.hid (fun w h => tokens_yes S w h (name_tokens hN))
  have hle40 := hN.le
  go_wp2_with fail
  refine (HT.out _ HG.out).mono ?_
  rintro e w2 ⟨⟨v, rfl, hown⟩, hb⟩
  obtain ⟨A, cap, rfl, hcell⟩ := own_all hown
  obtain ⟨g, rfl, hg, c0, c1, c2, c3⟩ := hcell 0 _ rfl
  obtain ⟨g', e', _, d0, d1, d2, d3⟩ := hcell 1 _ rfl
  injection e' with e'
  injection e' with e'
  subst e'
  have HB2 := Lib.hid hb
  rw [hSl] at c3 d2 d3
  rw [toBA_eta] at c1
  simp only [Nat.zero_mul, Nat.one_mul, Nat.zero_add, Nat.reduceAdd] at c0 c1 c2 c3 d0 d1 d2 d3
  rw [show toBA [] = ⟨#[]⟩ from rfl] at d1
  rw [show ([⟨1, S.data.toList, 0, S.data.toList.length⟩, ⟨7, [], S.data.toList.length, S.data.toList.length⟩] : List Tk).length = 2 from rfl]
  have HN := Lib.hid hN
  have HSL := Lib.hid hSl
  clear hb hown hcell hv hr hn1 hN hSl
  go_wp2_with fail
  refine (HN1.out _).mono ?_
  rintro e w3 ⟨rfl, hb⟩
  have HB3 := Lib.hid (below_then HB2.out hb)
  have HB23 := Lib.hid hb
  have x0 := (Below.cell hb hg).trans c0
  have x1 := (Below.cell hb hg).trans c1
  have x2 := (Below.cell hb hg).trans c2
  have x3 := (Below.cell hb hg).trans c3
  have y1 := (Below.cell hb hg).trans d1
  clear hb c0 c1 c2 c3 d0 d1 d2 d3
  go_wp2_with fail
  refine (HR.out _).mono ?_
  rintro e w4 ⟨rfl, hb⟩
  have HB4 := Lib.hid (below_then HB3.out hb)
  clear hb
  go_wp2_with fail
  refine (HV.out _ (HG.out.below HB4.out).u8).mono ?_
  rintro e w5 ⟨rfl, hb⟩
  have HB5 := Lib.hid (below_then HB4.out hb)
  clear hb
  go_wp2_with fail
  refine (HN1.out _).mono ?_
  rintro e w6 ⟨rfl, hb⟩
  have HB6 := Lib.hid (below_then HB5.out hb)
  clear hb
  go_wp2_with fail
  cases hn2 : nameV T.data.toList with
  | false =>
   rw [hn2] at HN2
   refine (HN2.out _).mono ?_
   rintro e w7 ⟨rfl, hb⟩
   have HB7 := Lib.hid (below_then HB6.out hb)
   clear hb
   go_wp2_with fail
   refine (lawake _ (HG.out.below HB7.out)).mono ?_
   rintro e wz ⟨rfl, hb⟩
   have HZZ := Lib.hid (below_then HB7.out hb)
   clear hb
   go_wp2_with fail
   go_ret
   exact ⟨rfl, HZZ.out⟩
  | true =>
   have hM := name_is hn2
   rw [hn2] at HN2
   obtain ⟨ta, tb, tc, td, htk⟩ := names_tokens HN.out hM
   have hST : S ++ ⟨#[32]⟩ ++ T = toBA (S.data.toList ++ 32 :: T.data.toList) := by
    apply ByteArray.ext; simp [toBA]
   have hJN := names_join HN.out hM
   have hle2 := hM.le
   rw [hTl] at hle2
   obtain ⟨B, hB⟩ : ∃ B, S ++ ⟨#[32]⟩ ++ T = B := ⟨_, rfl⟩
   obtain ⟨J, hJ⟩ : ∃ J, S ++ T = J := ⟨_, rfl⟩
   have hJl : J.data.toList = S.data.toList ++ T.data.toList := by rw [← hJ]; simp
   have hJs : J.size = S.size + T.size := by rw [← hJ, ByteArray.size_append]
   have HT2 := Lib.hid (fun w h => tokens_yes B w h (by rw [← hB, hST, toBA_list]; exact htk))
   have HNJ := Lib.hid (fun w => lName J w (by omega))
   have HRJ := Lib.hid (fun w => lReserved J w)
   rw [hJl, hJN] at HNJ
   rw [hJl] at HRJ
   have hsz1 : S.size ≤ 40 := by rw [← HSL.out]; exact HN.out.le
   rw [HSL.out, hTl] at HNJ
   clear htk hST hJN hJl hn2 hM
   refine (HN2.out _).mono ?_
   rintro e w7 ⟨rfl, hb⟩
   have HB7 := Lib.hid (below_then HB6.out hb)
   clear hb
   go_wp2_with fail
   refine (HT2.out _ (HG.out.below HB7.out)).mono ?_
   rintro e w8 ⟨⟨v8, rfl, hown⟩, hb⟩
   have HB8 := Lib.hid (below_then HB7.out hb)
   obtain ⟨A8, cap8, rfl, hcell⟩ := own_all hown
   obtain ⟨g8, rfl, hg8, _, u1, _, _⟩ := hcell 0 _ rfl
   obtain ⟨g', e', _, _, v1, _, _⟩ := hcell 1 _ rfl
   injection e' with e'
   injection e' with e'
   subst e'
   simp only [Nat.zero_mul, Nat.one_mul, Nat.zero_add, Nat.reduceAdd, toBA_eta] at u1 v1
   simp only [List.length_cons, List.length_nil, Nat.zero_add, Nat.reduceAdd]
   clear hb hown hcell
   generalize hasB resW (S.data.toList ++ T.data.toList) = rs at *
   by_cases h40 : S.size + T.size ≤ 40
   · have h40i : (S.size : Int) + (T.size : Int) ≤ 40 := by omega
     rw [decide_eq_true h40] at HNJ
     have HNK := Lib.hid (show ∀ w, Calls Tryz.prog 14 #[.string J] w fun e w' => e = .returned (.bool (!rs)) ∧ Below w.heap.size w w' from fun w => by have := HNJ.out w; rwa [Bool.true_and] at this)
     clear HNJ
     go_wp2_with fail
     refine (HNK.out _).mono ?_
     rintro e w9 ⟨rfl, hb⟩
     have HB9 := Lib.hid (below_then HB8.out hb)
     clear hb
     go_wp2_with fail
     refine (HRJ.out _).mono ?_
     rintro e w10 ⟨rfl, hb⟩
     have HB10 := Lib.hid (below_then HB9.out hb)
     clear hb
     go_wp2_with fail
     refine (lawake _ (HG.out.below HB10.out)).mono ?_
     rintro e wz ⟨rfl, hb⟩
     have HZZ := Lib.hid (below_then HB10.out hb)
     clear hb
     go_wp2_with fail
     go_ret
     exact ⟨rfl, HZZ.out⟩
   · have h40i : ¬ (S.size : Int) + (T.size : Int) ≤ 40 := by omega
     rw [decide_eq_false h40] at HNJ
     have HNK := Lib.hid (show ∀ w, Calls Tryz.prog 14 #[.string J] w fun e w' => e = .returned (.bool false) ∧ Below w.heap.size w w' from fun w => by have := HNJ.out w; rwa [Bool.false_and] at this)
     clear HNJ
     go_wp2_with fail
     refine (HNK.out _).mono ?_
     rintro e w9 ⟨rfl, hb⟩
     have HB9 := Lib.hid (below_then HB8.out hb)
     clear hb
     go_wp2_with fail
     refine (lawake _ (HG.out.below HB9.out)).mono ?_
     rintro e wz ⟨rfl, hb⟩
     have HZZ := Lib.hid (below_then HB9.out hb)
     clear hb
     go_wp2_with fail
     go_ret
     exact ⟨rfl, HZZ.out⟩
 | false =>
  rw [hn1] at HN1
  obtain ⟨V, f, hvf⟩ : ∃ V f, valueL S.data.toList = (V, f) := ⟨_, _, rfl⟩
  rw [hvf] at HV
  by_cases hf : f = 0
  · subst hf
    obtain ⟨htk, hvl⟩ := value_tokens hvf (by omega)
    have HT := Lib.hid (fun w h => tokens_yes S w h htk)
    have hVs : (toBA V).size = V.length := rfl
    generalize toBA V = VV at HV hVs
    go_wp2_with fail
    refine (HT.out _ HG.out).mono ?_
    rintro e w2 ⟨⟨v, rfl, hown⟩, hb⟩
    obtain ⟨A, cap, rfl, hcell⟩ := own_all hown
    obtain ⟨g, rfl, hg, c0, c1, c2, c3⟩ := hcell 0 _ rfl
    have HB2 := Lib.hid hb
    simp only [Nat.zero_mul, Nat.zero_add, toBA_eta] at c0 c1 c2 c3
    rw [show ([⟨5, S.data.toList, 0, S.data.toList.length⟩, ⟨7, [], S.data.toList.length, S.data.toList.length⟩] : List Tk).length = 2 from rfl]
    have hgt : ¬ (S.size : Int) - 2 < (VV.size : Int) := by omega
    clear hb hown hcell hvf htk hn1 hvl
    go_wp2_with fail
    refine (HN1.out _).mono ?_
    rintro e w3 ⟨rfl, hb⟩
    have HB3 := Lib.hid (below_then HB2.out hb)
    have k0 := (Below.cell hb hg).trans c0
    have k1 := (Below.cell hb hg).trans c1
    have hg3 := Nat.lt_of_lt_of_le hg hb.size
    clear hb c0 c1 c2 c3
    go_wp2_with fail
    refine (HV.out _ (HG.out.below HB3.out).u8).mono ?_
    rintro e w5 ⟨rfl, hb⟩
    have HB5 := Lib.hid (below_then HB3.out hb)
    have x0 := (Below.cell hb hg3).trans k0
    have x1 := (Below.cell hb hg3).trans k1
    clear hb k0 k1
    go_wp2_with fail
    refine (HN1.out _).mono ?_
    rintro e w6 ⟨rfl, hb⟩
    have HB6 := Lib.hid (below_then HB5.out hb)
    clear hb
    go_wp2_with fail
    refine (lawake _ (HG.out.below HB6.out)).mono ?_
    rintro e wz ⟨rfl, hb⟩
    have HZZ := Lib.hid (below_then HB6.out hb)
    clear hb
    go_wp2_with fail
    go_ret
    exact ⟨rfl, HZZ.out⟩
  · have hf1 : (f == 0) = false := beq_eq_false_iff_ne.2 hf
    have HT := Lib.hid (fun w h => ltokensAll S w h)
    clear hvf hn1
    go_wp2_with fail
    refine (HT.out _ HG.out).mono ?_
    rintro e w2 ⟨h1, hb⟩
    have HB2 := Lib.hid hb
    clear hb
    obtain ⟨a, b, c, rfl⟩ : ∃ (a : Value) (b c : Int), e = .returned (.tuple #[a, .int .i64 b, .int .i64 c]) := by
     unfold TokensOut at h1
     split at h1
     · obtain ⟨v, h2, _⟩ := h1; exact ⟨_, _, _, h2⟩
     · exact ⟨_, _, _, h1⟩
    clear h1
    go_wp2_with fail
    refine (HN1.out _).mono ?_
    rintro e w3 ⟨rfl, hb⟩
    have HB3 := Lib.hid (below_then HB2.out hb)
    clear hb
    go_wp2_with fail
    refine (HV.out _ (HG.out.below HB3.out).u8).mono ?_
    rintro e w5 ⟨rfl, hb⟩
    have HB5 := Lib.hid (below_then HB3.out hb)
    clear hb
    go_wp2_with fail
    refine (HN1.out _).mono ?_
    rintro e w6 ⟨rfl, hb⟩
    have HB6 := Lib.hid (below_then HB5.out hb)
    clear hb
    go_wp2_with fail
    refine (lawake _ (HG.out.below HB6.out)).mono ?_
    rintro e wz ⟨rfl, hb⟩
    have HZZ := Lib.hid (below_then HB6.out hb)
    clear hb
    go_wp2_with fail
    go_ret
    exact ⟨rfl, HZZ.out⟩
end Go.Proofs.YtclbmmiedihepaaGreatDoor
