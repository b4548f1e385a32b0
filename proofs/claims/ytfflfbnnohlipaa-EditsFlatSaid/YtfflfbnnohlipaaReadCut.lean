/- What a list of cuts reads as. -/
import Derived.Test.YtfflfbnnohlipaaRead
import Derived.Test.YtfflfbnnohlipaaLawFlat
namespace Go.Proofs.Ytfflfbnnohlipaa
open Go.ChangeShapes Go.WideShapes Go.ChangeAt Go.RowKit
set_option linter.unusedVariables false
set_option linter.unusedSimpArgs false

set_option maxRecDepth 100000 in
theorem part_elem {H : Type} {enc : TypeId × Value → H} {W : World} {base : Nat} {spare : Nat → Bool} {held : Bool} : ∀ n cs y, DataW.trod enc Try.prog W base spare held n 62 cs = some y →
    ∃ x : Prt, cs = x.cells ∧ x.text.size ≤ maxLen := by
  intro n cs y h
  obtain ⟨xs, m, _, _, hlen, hxl, hf⟩ := DataW.trod_struct Try.underlying62 h
  have hC : Try.prog.cellsOf 62 = 4 := by kernel_rfl
  have c3 : Try.prog.cellsOf 3 = 1 := by kernel_rfl
  have c9 : Try.prog.cellsOf 9 = 1 := by kernel_rfl
  have c4 : Try.prog.cellsOf 4 = 1 := by kernel_rfl
  rw [hC] at hlen
  match cs, hlen with
  | [u0, u1, u2, u3], _ =>
    match xs, hxl with
    | [y0, y1, y2, y3], _ =>
      have g0 := hf 0 _ rfl
      have g1 := hf 1 _ rfl
      have g2 := hf 2 _ rfl
      have g3 := hf 3 _ rfl
      change DataW.trod enc Try.prog W base spare held m 3 (([u0, u1, u2, u3].drop 0).take (Try.prog.cellsOf 3)) = _ at g0
      change DataW.trod enc Try.prog W base spare held m 3 (([u0, u1, u2, u3].drop 1).take (Try.prog.cellsOf 3)) = _ at g1
      change DataW.trod enc Try.prog W base spare held m 9 (([u0, u1, u2, u3].drop 2).take (Try.prog.cellsOf 9)) = _ at g2
      change DataW.trod enc Try.prog W base spare held m 4 (([u0, u1, u2, u3].drop 3).take (Try.prog.cellsOf 4)) = _ at g3
      rw [c3] at g0 g1
      rw [c9] at g2
      rw [c4] at g3
      obtain ⟨a, ea, _, _⟩ := DataW.trod_int Try.underlying3 g0
      obtain ⟨b, eb, _, _⟩ := DataW.trod_int Try.underlying3 g1
      obtain ⟨s, es, _, hs⟩ := DataW.trod_string Try.underlying9 g2
      obtain ⟨v, ev, _⟩ := DataW.trod_bool Try.underlying4 g3
      simp at ea eb es ev
      subst ea eb es ev
      exact ⟨⟨a, b, s, v⟩, rfl, hs⟩

theorem c62 : Try.prog.cellsOf 62 = 4 := by kernel_rfl
theorem c65 : Try.prog.cellsOf 65 = 3 := by kernel_rfl

/-- A cut whose parts lie where it says. -/
def GoodCut (W : World) (x : RCut) : Prop := RowOf Prt.cells 4 W W.heap.size x.A x.parts ∧ x.parts.length ≤ maxLen ∧ ∀ p ∈ x.parts, p.text.size ≤ maxLen

set_option maxRecDepth 100000 in
theorem cut_elem {H : Type} {enc : TypeId × Value → H} {W : World} {base : Nat} {spare : Nat → Bool} {held : Bool} : ∀ n cs y, DataW.trod enc Try.prog W base spare held n 65 cs = some y →
    ∃ x : RCut, cs = x.cells ∧ GoodCut W x := by
  intro n cs y h
  obtain ⟨xs, m, _, _, hlen, hxl, hf⟩ := DataW.trod_struct Try.underlying65 h
  have hC : Try.prog.cellsOf 65 = 3 := by kernel_rfl
  have c3 : Try.prog.cellsOf 3 = 1 := by kernel_rfl
  have c63 : Try.prog.cellsOf 63 = 1 := by kernel_rfl
  rw [hC] at hlen
  match cs, hlen with
  | [u0, u1, u2], _ =>
    match xs, hxl with
    | [y0, y1, y2], _ =>
      have g0 := hf 0 _ rfl
      have g1 := hf 1 _ rfl
      have g2 := hf 2 _ rfl
      change DataW.trod enc Try.prog W base spare held m 3 (([u0, u1, u2].drop 0).take (Try.prog.cellsOf 3)) = _ at g0
      change DataW.trod enc Try.prog W base spare held m 3 (([u0, u1, u2].drop 1).take (Try.prog.cellsOf 3)) = _ at g1
      change DataW.trod enc Try.prog W base spare held m 63 (([u0, u1, u2].drop 2).take (Try.prog.cellsOf 63)) = _ at g2
      rw [c3] at g0 g1
      rw [c63] at g2
      obtain ⟨a, ea, _, _⟩ := DataW.trod_int Try.underlying3 g0
      obtain ⟨b, eb, _, _⟩ := DataW.trod_int Try.underlying3 g1
      simp at ea eb g2
      subst ea eb
      have hsl : ∃ A len cap, u2 = .slice A len cap := by
        rcases Go.Deep.open_slice Try.underlying63 g2 with ⟨hcs, _⟩ | ⟨a, len, cap, m, n, D, Pl, hcs, _⟩
        · simp at hcs; exact ⟨_, _, _, hcs⟩
        · simp at hcs; exact ⟨_, _, _, hcs⟩
      obtain ⟨A, len, cap, rfl⟩ := hsl
      obtain ⟨l, rfl, hr, hf, hm⟩ := read_slice (cells := Prt.cells) (v := .slice A len cap) (d := y2.1) (ps := y2.2) Try.underlying63 c62 (by omega) part_elem rfl ⟨m, by simpa [Value.cells] using g2⟩
      exact ⟨⟨a, b, A, cap, l⟩, rfl, hr, hm, hf⟩

theorem rowFlat (W : World) (s : ByteArray) (hs : s.size ≤ 9223372036854775807) (A : Option Addr) (c : Nat) (l : List RCut) (hl : l.length ≤ 9223372036854775807)
    (hr : RowOf RCut.cells 3 W W.heap.size A l) (hg : ∀ x ∈ l, GoodCut W x) :
    Calls Try.prog 7 #[.string s, .slice A l.length c] W fun e w' => e = .returned (.bool true) ∧ Below W.heap.size W w' :=
  lawFlat s hs A c l W hl hr (fun x hx => (hg x hx).1) (fun x hx => ⟨below_max (hg x hx).2.1, fun p hp => below_max ((hg x hx).2.2 p hp)⟩)

end Go.Proofs.Ytfflfbnnohlipaa
