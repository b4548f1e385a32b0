/- What the laws' arguments read as. -/
import Derived.Test.YtjghbcligjiaaaaRows
import Derived.Test.YtjghbcligjiaaaaLaw
namespace Go.Proofs.Ytjghbcligjiaaaa
open Go.ChangeShapes Go.WideShapes Go.ChangeAt Go.RowKit
set_option linter.unusedVariables false
set_option linter.unusedSimpArgs false
theorem Try.own : ownKnob Try.prog.godebug = none := by kernel_rfl
theorem Try.laidOut : laidOutB Try.prog = true := by kernel_rfl
/-- A call of a memo. -/
structure Act1 where
  what : Int
  who : Int
  x : Int
  key : ByteArray
  deriving Inhabited
def Act1.cells (a : Act1) : List Value := [.int .i64 a.what, .int .i64 a.who, .int .i64 a.x, .string a.key]
/-- Numbers that an int holds; a text no longer than may be. -/
def Act1.good (a : Act1) : Prop := (Lit.int .i64 a.what).wf = true ∧ (Lit.int .i64 a.who).wf = true ∧ (Lit.int .i64 a.x).wf = true ∧ a.key.size ≤ maxLen
theorem Act1.len (a : Act1) : a.cells.length = 4 := rfl
theorem act_at {w : World} {B : Nat} {A : Option Addr} {l : List Act1} {k : Nat} {a : Act1} (h : RowOf Act1.cells 4 w B A l) (hx : l[k]? = some a) : ∃ b off, A = some ⟨b, off, none⟩ ∧ b < B ∧
    w.cell? ⟨b, off + k * 4, none⟩ = some (.int .i64 a.what) ∧ w.cell? ⟨b, off + k * 4 + 1, none⟩ = some (.int .i64 a.who) ∧ w.cell? ⟨b, off + k * 4 + 2, none⟩ = some (.int .i64 a.x) ∧ w.cell? ⟨b, off + k * 4 + 3, none⟩ = some (.string a.key) := by
  have hlt : 0 < l.length := by
    cases l with
    | nil => simp at hx
    | cons _ _ => simp
  obtain ⟨b, off, e, hb, hc⟩ := h hlt
  exact ⟨b, off, e, hb, hc k a hx 0 _ rfl, hc k a hx 1 _ rfl, hc k a hx 2 _ rfl, hc k a hx 3 _ rfl⟩
set_option maxRecDepth 100000 in
theorem act_elem {H : Type} {enc : TypeId × Value → H} {W : World} {base : Nat} {spare : Nat → Bool} {held : Bool} : ∀ n cs y, DataW.trod enc Try.prog W base spare held n 43 cs = some y →
    ∃ x : Act1, cs = x.cells ∧ x.good := by
  intro n cs y h
  obtain ⟨xs, m, _, _, hlen, hxl, hf⟩ := DataW.trod_struct Try.underlying43 h
  have hC : Try.prog.cellsOf 43 = 4 := by kernel_rfl
  have c3 : Try.prog.cellsOf 3 = 1 := by kernel_rfl
  have c9 : Try.prog.cellsOf 9 = 1 := by kernel_rfl
  rw [hC] at hlen
  match cs, hlen with
  | [u0, u1, u2, u3], _ =>
    match xs, hxl with
    | [y0, y1, y2, y3], _ =>
      have g0 := hf 0 _ rfl
      have g1 := hf 1 _ rfl
      have g2 := hf 2 _ rfl
      have g3 := hf 3 _ rfl
      change DataW.trod enc Try.prog W base spare held m 3 (([u0, u1, u2, u3].drop 0).take (Try.prog.cellsOf 3)) = _ at g0
      change DataW.trod enc Try.prog W base spare held m 3 (([u0, u1, u2, u3].drop 1).take (Try.prog.cellsOf 3)) = _ at g1
      change DataW.trod enc Try.prog W base spare held m 3 (([u0, u1, u2, u3].drop 2).take (Try.prog.cellsOf 3)) = _ at g2
      change DataW.trod enc Try.prog W base spare held m 9 (([u0, u1, u2, u3].drop 3).take (Try.prog.cellsOf 9)) = _ at g3
      rw [c3] at g0 g1 g2
      rw [c9] at g3
      obtain ⟨a, ea, _, ha⟩ := DataW.trod_int Try.underlying3 g0
      obtain ⟨b, eb, _, hb⟩ := DataW.trod_int Try.underlying3 g1
      obtain ⟨c, ec, _, hc⟩ := DataW.trod_int Try.underlying3 g2
      obtain ⟨s, es, _, hs⟩ := DataW.trod_string Try.underlying9 g3
      simp at ea eb ec es
      subst ea eb ec es
      exact ⟨⟨a, b, c, s⟩, rfl, ha, hb, hc, hs⟩
theorem c43 : Try.prog.cellsOf 43 = 4 := by kernel_rfl
def strCells (s : ByteArray) : List Value := [.string s]
theorem str_elem {H : Type} {enc : TypeId × Value → H} {W : World} {base : Nat} {spare : Nat → Bool} {held : Bool} : ∀ n cs y, DataW.trod enc Try.prog W base spare held n 9 cs = some y →
    ∃ x : ByteArray, cs = strCells x ∧ x.size ≤ maxLen := by
  intro n cs y h
  obtain ⟨s, es, _, hs⟩ := DataW.trod_string Try.underlying9 h
  exact ⟨s, es, hs⟩
theorem c9 : Try.prog.cellsOf 9 = 1 := by kernel_rfl
def u8Cells (s : Int) : List Value := [.int .u8 s]
theorem u8_elem {H : Type} {enc : TypeId × Value → H} {W : World} {base : Nat} {spare : Nat → Bool} {held : Bool} : ∀ n cs y, DataW.trod enc Try.prog W base spare held n 5 cs = some y →
    ∃ x : Int, cs = u8Cells x ∧ (Lit.int .u8 x).wf = true := by
  intro n cs y h
  obtain ⟨s, es, _, hs⟩ := DataW.trod_int Try.underlying5 h
  exact ⟨s, es, hs⟩
theorem c5 : Try.prog.cellsOf 5 = 1 := by kernel_rfl
theorem below_max {n : Nat} (h : n ≤ maxLen) : n ≤ 9223372036854775807 := by unfold maxLen at h; exact h
end Go.Proofs.Ytjghbcligjiaaaa
