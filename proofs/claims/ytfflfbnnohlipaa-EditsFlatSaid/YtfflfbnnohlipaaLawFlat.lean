/- emendlaw07.EditsFlat: the walk. -/
import Derived.Test.YtfflfbnnohlipaaFlat
import Derived.Test.YtfflfbnnohlipaaCutP
import Derived.Test.YtfflfbnnohlipaaSame
import Derived.Test.YtfflfbnnohlipaaAwake
import Derived.Test.YtfflfbnnohlipaaCut
namespace Go.Proofs.Ytfflfbnnohlipaa
open Go.RowKit
set_option linter.unusedVariables false
set_option linter.unusedSimpArgs false

theorem flatL_bare (text : ByteArray) : ∀ (l l' : List RCut), l.map RCut.bare = l'.map RCut.bare → flatL text l = flatL text l' := by
  intro l
  induction l with
  | nil =>
    intro l' h
    cases l' with
    | nil => rfl
    | cons _ _ => simp at h
  | cons x l ih =>
    intro l' h
    cases l' with
    | nil => simp at h
    | cons y l' =>
      simp only [List.map_cons, List.cons.injEq, RCut.bare, Prod.mk.injEq] at h
      obtain ⟨⟨h1, h2, h3⟩, h4⟩ := h
      simp only [flatL, h1, h2, h3, ih l' h4]

theorem fine_pieces {l l1 : List RCut} (h : l1.map RCut.bare = piecesC l) : Fine l1 := by
  have hlen : l1.length = (piecesC l).length := by rw [← h]; simp
  refine ⟨?_, fun x hx => ?_⟩
  · rw [hlen]; simp [piecesC]; omega
  · have hm : x.bare ∈ piecesC l := by rw [← h]; exact List.mem_map.2 ⟨x, hx, rfl⟩
    simp only [piecesC, List.mem_map] at hm
    obtain ⟨y, _, hy⟩ := hm
    simp only [cutC, RCut.bare, Prod.mk.injEq] at hy
    obtain ⟨_, _, hp⟩ := hy
    refine ⟨?_, fun p hpm => ?_⟩
    · rw [← hp]; simp; omega
    · rw [← hp] at hpm
      simp only [List.mem_map] at hpm
      obtain ⟨q, _, rfl⟩ := hpm
      simp only [cutP, ByteArray.size_extract]
      split <;> omega

theorem FitC.mem {l : List RCut} (h : FitC l) : FitC l := h

set_option maxRecDepth 100000 in
set_option maxHeartbeats 6400000 in
theorem lawFlat (s : ByteArray) (hs : s.size ≤ 9223372036854775807) (A : Option Addr) (c : Nat) (l : List RCut) (w : World) (hl : l.length ≤ 9223372036854775807)
    (hr : RowOf RCut.cells 3 w w.heap.size A l) (hdp : Deep w w.heap.size l) (hfit : FitC l) :
    Calls Try.prog 7 #[.string s, .slice A l.length c] w fun e w' => e = .returned (.bool true) ∧ Below w.heap.size w w' := by
  have H0 := Lib.hid (cut_any s w hs)
  have hts := cutV_size s
  generalize cutV s = t at *
  have H1 := Lib.hid (cuts_any A c l w hl hr hdp hfit)
  have HR := Lib.hid hr
  have HD := Lib.hid hdp
  have HF := Lib.hid hfit
  have HL := Lib.hid hl
  have HT := Lib.hid hts
  clear hs hl hr hdp hfit hts
  go_enter Try.func7, Try.ntmps7
  go_wp2_with fail
  refine H0.out.mono ?_
  rintro e w1 ⟨rfl, rfl⟩
  go_wp2_with fail
  refine H1.out.mono ?_
  rintro e w1 ⟨⟨l1, hbare, ⟨A1, c1, rfl, r1⟩, d1⟩, hb1⟩
  have HB1 := Lib.hid hb1
  have HBare1 := Lib.hid hbare
  clear hbare hb1
  go_wp2_with fail
  refine (flat_any t A1 c1 l1 w1 (by have := HT.out; omega) (fine_pieces HBare1.out) r1 d1).mono ?_
  rintro e w2 ⟨hret1, hb2⟩
  have HB2 := Lib.hid (below_then HB1.out hb2)
  have H3 := Lib.hid (cuts_any A c l w2 HL.out (HR.out.after (Nat.le_refl _) HB2.out) (HD.out.after (Nat.le_refl _) HB2.out) HF.out)
  clear hb2 r1 d1
  rcases hret1 with ⟨he1, Ax, cx, rfl, rx⟩ | ⟨he1, rfl⟩
  · have HE1 := Lib.hid he1
    have HX := Lib.hid rx
    clear he1 rx
    go_wp2_with fail
    refine H3.out.mono ?_
    rintro e w3 ⟨⟨l2, hbare2, ⟨A2, c2, rfl, r2⟩, d2⟩, hb3⟩
    have hfl := flatL_bare t l1 l2 (HBare1.out.trans hbare2.symm)
    have HFL := Lib.hid hfl
    have HBare2 := Lib.hid hbare2
    have HX3 := Lib.hid (HX.out.after (Nat.le_refl _) hb3)
    have HB3 := Lib.hid (below_then HB2.out hb3)
    clear hbare2 hfl hb3
    go_wp2_with fail
    refine (refFlat_any t A2 c2 l2 w3 (by have := HT.out; omega) (fine_pieces HBare2.out) r2 d2).mono ?_
    rintro e w4 ⟨hret2, hb4⟩
    have hE : flatE t l2 = flatE t l1 := by simp only [flatE, HFL.out]
    have hS : flatS t l2 = flatS t l1 := by simp only [flatS, HFL.out]
    have HX4 := Lib.hid (HX3.out.after (Nat.le_refl _) hb4)
    have HB4 := Lib.hid (below_then HB3.out hb4)
    clear hb4 r2 d2
    rcases hret2 with ⟨he2, Ay, cy, rfl, ry⟩ | ⟨he2, rfl⟩
    · rw [hS] at ry ⊢
      have hlen : (flatS t l1).length ≤ 1000 := by
        have h1 := (fine_pieces HBare1.out).1
        unfold flatS
        cases hq : flatL t l1 with
        | error _ => simp
        | ok m =>
          have := flatL_len hq
          dsimp only
          split
          · omega
          · simp
      have HLen := Lib.hid hlen
      have HY := Lib.hid ry
      clear ry hlen hE hS he2
      generalize flatS t l1 = m at *
      go_wp2_with fail
      refine (same_any Ax cx Ay cy m w4 (by have := HLen.out; omega) HX4.out HY.out).mono ?_
      rintro e w5 ⟨rfl, hb5⟩
      have HB5 := Lib.hid (below_then HB4.out hb5)
      clear hb5
      go_wp2_with (go_at_call 14; refine (awake_any _).mono ?_; rintro e w6 ⟨rfl, hb6⟩)
      go_ret
      exact ⟨rfl, below_then HB5.out hb6⟩
    · exact absurd (hE.trans HE1.out) he2
  · have HE1 := Lib.hid he1
    clear he1
    go_wp2_with fail
    refine H3.out.mono ?_
    rintro e w3 ⟨⟨l2, hbare2, ⟨A2, c2, rfl, r2⟩, d2⟩, hb3⟩
    have hfl := flatL_bare t l1 l2 (HBare1.out.trans hbare2.symm)
    have HFL := Lib.hid hfl
    have HBare2 := Lib.hid hbare2
    have HB3 := Lib.hid (below_then HB2.out hb3)
    clear hbare2 hfl hb3
    go_wp2_with fail
    refine (refFlat_any t A2 c2 l2 w3 (by have := HT.out; omega) (fine_pieces HBare2.out) r2 d2).mono ?_
    rintro e w4 ⟨hret2, hb4⟩
    have hE : flatE t l2 = flatE t l1 := by simp only [flatE, HFL.out]
    have HB4 := Lib.hid (below_then HB3.out hb4)
    clear hb4 r2 d2
    rcases hret2 with ⟨he2, Ay, cy, rfl, ry⟩ | ⟨he2, rfl⟩
    · exact absurd (hE.symm.trans he2) HE1.out
    · rw [hE]
      clear he2 hE
      generalize flatE t l1 = E at *
      go_wp2_with fail
      refine (same_any none 0 none 0 [] w4 (by simp) RowOf.nil_ RowOf.nil_).mono ?_
      rintro e w5 ⟨rfl, hb5⟩
      have HB5 := Lib.hid (below_then HB4.out hb5)
      clear hb5
      go_wp2_with (go_at_call 14; refine (awake_any _).mono ?_; rintro e w6 ⟨rfl, hb6⟩)
      go_ret
      exact ⟨rfl, below_then HB5.out hb6⟩
end Go.Proofs.Ytfflfbnnohlipaa
