/- awake: some of the chapter's answers. -/
import Derived.Test.YtjghbcligjiaaaaHeldS
namespace Go.Proofs.Ytjghbcligjiaaaa
open Go.RowKit Go.Maps Go.Sort Go.MuLone
set_option linter.unusedVariables false
set_option linter.unusedSimpArgs false
def ka : ByteArray := ⟨#[97]⟩
def xx : ByteArray := ⟨#[120]⟩
def aw0 : AS ByteArray := ⟨2, [], []⟩
def aw1 : AS ByteArray := ⟨2, [], [(ka, (1, []))]⟩
def aw2 : AS ByteArray := ⟨2, [], [(ka, (1, [2]))]⟩
def aw3 : AS ByteArray := ⟨2, [(ka, xx)], []⟩
theorem aw_ask1 : askA aw0 ka 1 = (aw1, .make) := rfl
theorem aw_ask2 : askA aw1 ka 2 = (aw2, .wait) := by
  simp [askA, aw1, aw2, getK_cons, getK_nil, setK]
theorem aw_give : giveA aw2 ka 1 xx = (aw3, some [2]) := by
  simp [giveA, aw2, aw3, getK_cons, getK_nil, dropK]
theorem aw_ask3 : askA aw3 ka 2 = (aw3, .hit xx) := by
  simp [askA, aw3, getK_cons, getK_nil, dropK]
theorem sm_0 : SmA aw0 1000000 := ⟨by decide, by decide, by simp [aw0]⟩
theorem sm_1 : SmA aw1 1000000 := ⟨by decide, by decide, by simp [aw1]⟩
theorem sm_2 : SmA aw2 1000000 := ⟨by decide, by decide, by simp [aw2]⟩
theorem sm_3 : SmA aw3 1000000 := ⟨by decide, by decide, by simp [aw3]⟩
theorem ka_size : ka.size ≤ maxLen := by decide
theorem xx_size : xx.size ≤ maxLen := by decide
set_option maxRecDepth 100000 in
set_option maxHeartbeats 1600000 in
theorem awake_any (w : World) : Calls Try.prog 12 #[] w fun e w' => e = .returned (.bool true) ∧ Below w.heap.size w w' := by
  have hnew := NewHS 2 w (by decide) (by decide)
  have HN := Lib.hid hnew
  clear hnew
  go_enter Try.func12, Try.ntmps12
  go_wp2_with (go_at_call 24; go_must (refine HN.out.mono ?_; rintro e w1 ⟨m, F0, rfl, h1, hf1, hb1⟩; have H1 := Lib.hid h1; have HF1 := Lib.hid hf1; have HB1 := Lib.hid hb1; clear h1 hf1 hb1))
  have c1 := AskHS (A := aw0) ka 1 H1.out (by decide) ka_size sm_0
  rw [aw_ask1] at c1
  refine c1.mono ?_
  clear c1
  rintro e w2 ⟨rfl, F1, h2, g2, o2⟩
  have H2 := Lib.hid h2
  have G2 := Lib.hid g2
  have O2 := Lib.hid o2
  clear h2 g2 o2
  simp only [askOut]
  go_wp2_with fail
  have c2 := AskHS (A := aw1) ka 2 H2.out (by decide) ka_size sm_1
  rw [aw_ask2] at c2
  refine c2.mono ?_
  clear c2
  rintro e w3 ⟨rfl, F2, h3, g3, o3⟩
  have H3 := Lib.hid h3
  have G3 := Lib.hid g3
  have O3 := Lib.hid o3
  clear h3 g3 o3
  simp only [askOut]
  go_wp2_with fail
  have c3 := GiveHS (A := aw2) ka 1 xx H3.out ka_size xx_size (by decide) (by decide) sm_2
  rw [aw_give] at c3
  refine c3.mono ?_
  clear c3
  rintro e w4 ⟨v, c, F3, rfl, ⟨hr, rfl, hq⟩, h4, g4, o4⟩
  obtain ⟨g, off, cap, rfl, _, _, _, _⟩ := hr.form (by simp)
  have hg4 := hq g rfl
  have HR := Lib.hid hr
  have HG := Lib.hid hg4
  have H4 := Lib.hid h4
  have G4 := Lib.hid g4
  have O4 := Lib.hid o4
  clear h4 g4 o4 hr hq hg4
  go_wp2_with fail
  have c4 := AskHS (A := aw3) ka 2 H4.out (by decide) ka_size sm_3
  rw [aw_ask3] at c4
  refine c4.mono ?_
  clear c4
  rintro e w5 ⟨rfl, F4, h5, g5, o5⟩
  have hr5 := HR.out.other o5 (fun q hq => by simp [Value.ownBlock] at hq; rw [← hq]; exact HG.out.2)
  have hc5 : w5.cell? ⟨g, off, none⟩ = some (.int .i64 2) := by
    have := hr5.cellsAt g off rfl 0 _ rfl
    simpa using this
  have hb2 := HB1.out.size
  have f1 := G2.out.base HF1.out hb2
  have hb3 := O2.out.size
  have f2 := G3.out.base f1 (by omega)
  have hb4 := O3.out.size
  have f3 := G4.out.base f2 (by omega)
  have hb5 := O4.out.size
  have hbel := HB1.out.trans ((O2.out.toBelow HF1.out hb2).trans ((O3.out.toBelow f1 (by omega)).trans ((O4.out.toBelow f2 (by omega)).trans (o5.toBelow f3 (by omega)))))
  have HBEL := Lib.hid hbel
  have hxx : xx.toList = [120] := by rw [ByteArray.toList_eq]; rfl
  clear hbel f1 f2 f3 hb2 hb3 hb4 hb5 h5 g5 o5 hr5
  simp only [askOut]
  go_wp2_with fail
  go_ret
  exact ⟨rfl, HBEL.out⟩
end Go.Proofs.Ytjghbcligjiaaaa
