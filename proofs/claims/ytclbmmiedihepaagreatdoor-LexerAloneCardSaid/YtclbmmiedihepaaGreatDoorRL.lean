/- The law's small thing. The laws LexerNames and LexerTokens, walked. -/
import Derived.Test.YtclbmmiedihepaaGreatDoorRI
import Derived.Test.YtclbmmiedihepaaGreatDoorRH
import Derived.Test.YtclbmmiedihepaaGreatDoorRK
namespace Go.Proofs.YtclbmmiedihepaaGreatDoor
section
open Go.RowKit
set_option linter.unusedVariables false
set_option linter.unusedSimpArgs false
theorem tokens_of {L : BL} {l : List Tk} (h : L.length ≤ 65536) (hb : brkV L 0 = none) (hl : lexV eFv L 0 [] none = .ok l) : tokensV L = .ok l := by
 unfold tokensV; rw [if_neg (by omega), hb]; exact hl
theorem tokens_bad {L : BL} {e : Nat × Int} (h : L.length ≤ 65536) (hb : brkV L 0 = none) (hl : lexV eFv L 0 [] none = .error e) : tokensV L = .error e := by
 unfold tokensV; rw [if_neg (by omega), hb]; exact hl
theorem tokens_utf {L : BL} {k : Nat} (h : L.length ≤ 65536) (hb : brkV L 0 = some k) : tokensV L = .error (k, 8) := by
 unfold tokensV; rw [if_neg (by omega), hb]
/-- Tokens of a text that has some. -/
theorem tokens_yes (s : ByteArray) (w : World) (hG : LexG w) {l : List Tk} (h : tokensV s.data.toList = .ok l) :
  Calls Tryz.prog 10 #[.string s] w fun e w' => (∃ v, e = .returned (.tuple #[v, .int .i64 0, .int .i64 0]) ∧ Own tkC 4 32 w' w.heap.size v l) ∧ Below w.heap.size w w' := by
 refine (ltokensAll s w hG).mono ?_
 rintro e w' ⟨h1, h2⟩
 unfold TokensOut at h1
 rw [h] at h1
 obtain ⟨v, h3, h4, _⟩ := h1
 exact ⟨⟨v, h3, h4⟩, h2⟩
theorem tokens_no (s : ByteArray) (w : World) (hG : LexG w) {p : Nat} {er : Int} (h : tokensV s.data.toList = .error (p, er)) :
  Calls Tryz.prog 10 #[.string s] w fun e w' => e = .returned (.tuple #[.slice none 0 0, .int .i64 (p : Nat), .int .i64 er]) ∧ Below w.heap.size w w' := by
 refine (ltokensAll s w hG).mono ?_
 rintro e w' ⟨h1, h2⟩
 unfold TokensOut at h1
 rw [h] at h1
 exact ⟨h1, h2⟩
def awkL : List Tk := [⟨1, [120], 0, 1⟩, ⟨6, [58, 61], 2, 4⟩, ⟨3, [49], 5, 6⟩, ⟨7, [], 6, 6⟩]
theorem awk_tokens : tokensV [120, 32, 58, 61, 32, 49, 32, 47, 47, 32, 99] = .ok awkL :=
 tokens_of (by decide) (brkF_is 20 0 _ none (by rfl) rfl) (lexF_is (eG := fun _ => 0) 50 _ 0 [] none _ [] (by rfl) (by simp) rfl)
set_option maxRecDepth 100000 in
set_option maxHeartbeats 6400000 in
theorem lawake (w : World) (hG : LexG w) : Calls Tryz.prog 12 #[] w fun e w' => e = .returned (.bool true) ∧ Below w.heap.size w w' := by
 have HT := Lib.hid (tokens_yes ⟨#[120, 32, 58, 61, 32, 49, 32, 47, 47, 32, 99]⟩ w hG awk_tokens)
 have HN1 := Lib.hid (fun w => lName ⟨#[120]⟩ w (by decide))
 have HN2 := Lib.hid (fun w => lName ⟨#[102, 111, 114]⟩ w (by decide))
 rw [show nameV (⟨#[120]⟩ : ByteArray).data.toList = true by rfl] at HN1
 rw [show nameV (⟨#[102, 111, 114]⟩ : ByteArray).data.toList = false by rfl] at HN2
 clear hG
 go_enter Tryz.func12, Tryz.ntmps12
 go_wp2_with fail
 refine HT.out.mono ?_
 rintro e w1 ⟨⟨v, rfl, hown⟩, hb1⟩
 obtain ⟨g, cap, rfl, hg, hBg, c0, c1, c2, c3⟩ := own_tok hown (i := 1) (t := ⟨6, [58, 61], 2, 4⟩) rfl
 obtain ⟨g', cap', e', _, _, d0, _, _, _⟩ := own_tok hown (i := 2) (t := ⟨3, [49], 5, 6⟩) rfl
 injection e' with e1 e2 e3
 injection e1 with e1
 injection e1 with e1
 subst e1
 obtain ⟨g', cap', e', _, _, f0, f1, f2, f3⟩ := own_tok hown (i := 3) (t := ⟨7, [], 6, 6⟩) rfl
 injection e' with e1 e2 e3
 injection e1 with e1
 injection e1 with e1
 subst e1
 have hlen : awkL.length = 4 := rfl
 rw [hlen]
 simp only [Nat.reduceMul, Nat.reduceAdd, Int.cast_ofNat_Int] at c0 c1 c2 c3 d0 f0 f1 f2 f3
 rw [show toBA [58, 61] = ⟨#[58, 61]⟩ from rfl] at c1
 rw [show toBA [] = ⟨#[]⟩ from rfl] at f1
 have HB1 := Lib.hid hb1
 clear hown e2 e3 hb1 hlen
 go_wp2_with fail
 refine (HN1.out _).mono ?_
 rintro e w2 ⟨rfl, hb2⟩
 have HB2 := Lib.hid (below_then HB1.out hb2)
 go_wp2_with fail
 refine (HN2.out _).mono ?_
 rintro e w3 ⟨rfl, hb3⟩
 have HB3 := Lib.hid (below_then HB2.out hb3)
 go_wp2_with fail
 go_ret
 exact ⟨rfl, HB3.out⟩
end

section
open Go.RowKit
set_option linter.unusedVariables false
set_option linter.unusedSimpArgs false
/-- Tokens of both, at once. -/
theorem own_all {w : World} {B : Nat} {v : Value} {l : List Tk} {T : TypeId} (h : Own tkC 4 T w B v l) : ∃ A cap, v = .slice A l.length cap ∧ ∀ i t, l[i]? = some t →
  ∃ g, A = some ⟨g, 0, none⟩ ∧ g < w.heap.size ∧ w.cell? ⟨g, i * 4, none⟩ = some (.int .i64 (t.kind : Int)) ∧ w.cell? ⟨g, i * 4 + 1, none⟩ = some (.string (toBA t.text)) ∧
   w.cell? ⟨g, i * 4 + 2, none⟩ = some (.int .i64 (t.fr : Int)) ∧ w.cell? ⟨g, i * 4 + 3, none⟩ = some (.int .i64 (t.ed : Int)) := by
 obtain ⟨A, cap, rfl, _⟩ := Own.row tkC_len h
 refine ⟨A, cap, rfl, fun i t ht => ?_⟩
 obtain ⟨g, c, e, h1, _, h2, h3, h4, h5⟩ := own_tok h ht
 injection e with e1 e2 e3
 exact ⟨g, e1, h1, h2, h3, h4, h5⟩
end
end Go.Proofs.YtclbmmiedihepaaGreatDoor
