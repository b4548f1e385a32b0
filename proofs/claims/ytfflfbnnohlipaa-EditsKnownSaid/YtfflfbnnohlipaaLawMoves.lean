/- emendlaw07.EditsMoves: the walk. -/
import Derived.Test.YtfflfbnnohlipaaAwake
import Derived.Test.YtfflfbnnohlipaaFew
namespace Go.Proofs.Ytfflfbnnohlipaa
open Go.RowKit
set_option linter.unusedVariables false
set_option linter.unusedSimpArgs false

theorem small_few (l : List Spl) : Small (fewV l) := by
  intro x hx
  simp only [fewV, List.mem_map] at hx
  obtain ⟨y, _, rfl⟩ := hx
  simp only [cut300, ByteArray.size_extract]
  split <;> omega

theorem moved_any (A : Option Addr) (c : Nat) (l : List Spl) (p : Int) (w : World) (hl : l.length ≤ 30) (hs : Small l) (hr : Row w w.heap.size A l) :
    Calls Try.prog 12 #[.slice A l.length c, .int .i64 p] w fun e w' => RetMoved l p e ∧ Below w.heap.size w w' := by
  by_cases h0 : l = []
  · exact moved_yes A c l p w hl hs hr (.inl h0)
  · cases hf : fitsV (maxTo l 0) l
    · exact moved_no A c l p w hl hr (by cases l; exact absurd rfl h0; simp) hf
    · exact moved_yes A c l p w hl hs hr (.inr hf)

set_option maxHeartbeats 1600000 in
theorem lawMoves (A : Option Addr) (c : Nat) (l : List Spl) (p : Int) (w : World) (hl : l.length ≤ 9223372036854775807) (hr : Row w w.heap.size A l) (hfit : Fit l) :
    Calls Try.prog 3 #[.slice A l.length c, .int .i64 p] w fun e w' => e = .returned (.bool true) ∧ Below w.heap.size w w' := by
  have hsm := small_few l
  have hln := fewV_len l
  have h1 := few_any A c l w hl hr hfit
  generalize fewV l = m at *
  have H1 := Lib.hid h1
  have HS := Lib.hid hsm
  have HL := Lib.hid hln
  clear hsm h1 hr hfit hl hln
  go_enter Try.func3, Try.ntmps3
  go_wp2_with fail
  refine H1.out.mono ?_
  rintro e w1 ⟨⟨A1, c1, rfl, r1⟩, hb1⟩
  go_wp2_with fail
  refine (moved_any A1 c1 m p _ HL.out HS.out r1).mono ?_
  rintro e w2 ⟨rfl, hb2⟩
  have r2 := r1.after (Nat.le_refl _) hb2
  have R2 := Lib.hid r2
  clear r1 r2
  go_wp2_with fail
  refine (refMoved_any A1 c1 m p _ HL.out HS.out R2.out).mono ?_
  rintro e w3 ⟨rfl, q, rfl⟩
  go_wp2_with fail
  refine (awake_any _).mono ?_
  rintro e w4 ⟨rfl, hb4⟩
  go_wp2_with fail
  go_ret
  exact ⟨rfl, below_then (below_draws (below_then hb1 hb2) q) hb4⟩
end Go.Proofs.Ytfflfbnnohlipaa
