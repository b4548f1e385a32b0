/- For any documents and any edits of them, emendlaw07.EditsWhole returns true: what edits make of documents, or why they may not be, is the document's; the documents stay. No condition. -/
import Derived.Test.YtfflfbnnohlipaaLawWhole
import Derived.Test.YtfflfbnnohlipaaRead
import Derived.Lib.SmallJoins
namespace Go.Proofs.Ytfflfbnnohlipaa
open Go.ChangeShapes Go.WideShapes Go.ChangeAt Go.RowKit
open Go.Joins (open_agg2)
set_option linter.unusedVariables false
set_option linter.unusedSimpArgs false

theorem c43 : Try.prog.cellsOf 43 = 3 := by kernel_rfl
theorem c45 : Try.prog.cellsOf 45 = 3 := by kernel_rfl
theorem c41 : Try.prog.cellsOf 41 = 2 := by kernel_rfl

set_option maxRecDepth 100000 in
theorem doc_elem {H : Type} {enc : TypeId × Value → H} {W : World} {base : Nat} {spare : Nat → Bool} {held : Bool} : ∀ n cs y, DataW.trod enc Try.prog W base spare held n 43 cs = some y →
    ∃ x : Dc, cs = x.cells ∧ x.text.size ≤ maxLen ∧ x.uri.size ≤ maxLen := by
  intro n cs y h
  obtain ⟨xs, m, _, _, hlen, hxl, hf⟩ := DataW.trod_struct Try.underlying43 h
  have c2 : Try.prog.cellsOf 2 = 1 := by kernel_rfl
  have c9 : Try.prog.cellsOf 9 = 1 := by kernel_rfl
  rw [c43] at hlen
  match cs, hlen with
  | [u0, u1, u2], _ =>
    match xs, hxl with
    | [y0, y1, y2], _ =>
      have g0 := hf 0 _ rfl
      have g1 := hf 1 _ rfl
      have g2 := hf 2 _ rfl
      change DataW.trod enc Try.prog W base spare held m 9 (([u0, u1, u2].drop 0).take (Try.prog.cellsOf 9)) = _ at g0
      change DataW.trod enc Try.prog W base spare held m 9 (([u0, u1, u2].drop 1).take (Try.prog.cellsOf 9)) = _ at g1
      change DataW.trod enc Try.prog W base spare held m 2 (([u0, u1, u2].drop 2).take (Try.prog.cellsOf 2)) = _ at g2
      rw [c9] at g0 g1
      rw [c2] at g2
      obtain ⟨a, ea, _, ha⟩ := DataW.trod_string Try.underlying9 g0
      obtain ⟨b, eb, _, hb⟩ := DataW.trod_string Try.underlying9 g1
      obtain ⟨v, ev, _, _⟩ := DataW.trod_int Try.underlying2 g2
      simp at ea eb ev
      subst ea eb ev
      exact ⟨⟨a, b, v⟩, rfl, hb, ha⟩

/-- Edits whose splices lie where it says. -/
def GoodEdit (W : World) (x : RDe) : Prop := RowOf Spl.cells 3 W W.heap.size x.A x.spl ∧ x.uri.size ≤ maxLen ∧ x.spl.length ≤ maxLen ∧ ∀ p ∈ x.spl, p.text.size ≤ maxLen

set_option maxRecDepth 100000 in
theorem edit_elem {H : Type} {enc : TypeId × Value → H} {W : World} {base : Nat} {spare : Nat → Bool} {held : Bool} : ∀ n cs y, DataW.trod enc Try.prog W base spare held n 45 cs = some y →
    ∃ x : RDe, cs = x.cells ∧ GoodEdit W x := by
  intro n cs y h
  obtain ⟨xs, m, _, _, hlen, hxl, hf⟩ := DataW.trod_struct Try.underlying45 h
  have c2 : Try.prog.cellsOf 2 = 1 := by kernel_rfl
  have c9 : Try.prog.cellsOf 9 = 1 := by kernel_rfl
  have c22 : Try.prog.cellsOf 22 = 1 := by kernel_rfl
  rw [c45] at hlen
  match cs, hlen with
  | [u0, u1, u2], _ =>
    match xs, hxl with
    | [y0, y1, y2], _ =>
      have g0 := hf 0 _ rfl
      have g1 := hf 1 _ rfl
      have g2 := hf 2 _ rfl
      change DataW.trod enc Try.prog W base spare held m 9 (([u0, u1, u2].drop 0).take (Try.prog.cellsOf 9)) = _ at g0
      change DataW.trod enc Try.prog W base spare held m 2 (([u0, u1, u2].drop 1).take (Try.prog.cellsOf 2)) = _ at g1
      change DataW.trod enc Try.prog W base spare held m 22 (([u0, u1, u2].drop 2).take (Try.prog.cellsOf 22)) = _ at g2
      rw [c9] at g0
      rw [c2] at g1
      rw [c22] at g2
      obtain ⟨a, ea, _, ha⟩ := DataW.trod_string Try.underlying9 g0
      obtain ⟨v, ev, _, _⟩ := DataW.trod_int Try.underlying2 g1
      simp at ea ev g2
      subst ea ev
      have hsl : ∃ A len cap, u2 = .slice A len cap := by
        rcases Go.Deep.open_slice Try.underlying22 g2 with ⟨hcs, _⟩ | ⟨a, len, cap, m, n, D, Pl, hcs, _⟩
        · simp at hcs; exact ⟨_, _, _, hcs⟩
        · simp at hcs; exact ⟨_, _, _, hcs⟩
      obtain ⟨A, len, cap, rfl⟩ := hsl
      obtain ⟨l, rfl, hr, hf, hm⟩ := read_slice (cells := Spl.cells) (v := .slice A len cap) (d := y2.1) (ps := y2.2) Try.underlying22 c33 (by omega) spl_elem rfl ⟨m, by simpa [Value.cells] using g2⟩
      exact ⟨⟨a, v, A, cap, l⟩, rfl, hr, ha, hm, hf⟩

set_option maxRecDepth 100000 in
theorem editsWhole_lifted (os : Os) (started : os.Started) (H : Type) (enc : TypeId × Value → H) :
    ReturnsInHanded {} Try.checked os 6 .any (Rows.editsWholeSpec.pre6 enc Try.prog Try.f6 Rows.editsWholeRow.domain false) (Rows.editsWholeSpec.post enc Try.prog Try.f6 false true false false) := by
  refine returnsInHanded_of_change (C := Try.checked) Try.own started (by kernel_rfl) Try.func6
    (ChangeSpec.witness6 (enc := enc) (C := Try.checked) false ⟨#[], #[.agg #[.slice none 0 0, .slice none 0 0]], []⟩ 8 (by kernel_rfl) (by kernel_rfl) (by kernel_rfl) (by kernel_rfl)) ?_
  intro W base args ds gs before hval hW _ _
  obtain ⟨p, q, hA, hV, _, _, _⟩ := id hW
  rw [show Try.f6.params.toList = [41] from rfl] at hA
  obtain ⟨v0, vs0, d0, ds0, p0, q0, hargs, hds, _, h0, r0⟩ := trodAll_cons hA
  obtain ⟨rfl, rfl, _⟩ := trodAll_nil r0
  obtain rfl : args = #[v0] := by cases args; simp_all
  obtain ⟨rfl, _⟩ := trodVars_none hV
  subst hds
  obtain ⟨u0, u1, y0, y1, n, rfl, rfl, rfl, g0, g1⟩ := open_agg2 Try.underlying41 (by kernel_rfl) c41 (hval 0 41 v0 rfl rfl) h0
  have hs0 : ∃ A len cap, u0 = .slice A len cap := by
    rcases Go.Deep.open_slice Try.underlying38 g0 with ⟨hcs, _⟩ | ⟨a, len, cap, m, n, D, Pl, hcs, _⟩
    · simp at hcs; exact ⟨_, _, _, hcs⟩
    · simp at hcs; exact ⟨_, _, _, hcs⟩
  have hs1 : ∃ A len cap, u1 = .slice A len cap := by
    rcases Go.Deep.open_slice Try.underlying39 g1 with ⟨hcs, _⟩ | ⟨a, len, cap, m, n, D, Pl, hcs, _⟩
    · simp at hcs; exact ⟨_, _, _, hcs⟩
    · simp at hcs; exact ⟨_, _, _, hcs⟩
  obtain ⟨A0, len0, cap0, rfl⟩ := hs0
  obtain ⟨A1, len1, cap1, rfl⟩ := hs1
  obtain ⟨docs, rfl, hr0, hf0, hm0⟩ := read_slice (cells := Dc.cells) (v := .slice A0 len0 cap0) (d := y0.1) (ps := y0.2) Try.underlying38 c43 (by omega) doc_elem rfl ⟨n, by simpa [Value.cells] using g0⟩
  obtain ⟨l, rfl, hr1, hf1, hm1⟩ := read_slice (cells := RDe.cells) (v := .slice A1 len1 cap1) (d := y1.1) (ps := y1.2) Try.underlying39 c45 (by omega) edit_elem rfl ⟨n, by simpa [Value.cells] using g1⟩
  exact law_post (bt := 4) Try.laidOut (by kernel_rfl) rfl Try.underlying4 rfl rfl hW (lawWhole A0 cap0 docs A1 cap1 l W (below_max hm0) (below_max hm1) hr0 hr1 (fun x hx => (hf1 x hx).1)
    (fun d hd => ⟨below_max (hf0 d hd).1, below_max (hf0 d hd).2⟩) (fun x hx => ⟨below_max (hf1 x hx).2.1, below_max (hf1 x hx).2.2.1, fun p hp => below_max ((hf1 x hx).2.2.2 p hp)⟩))

theorem editsWhole_holds : Rows.EditsWholeSaid :=
  OpenClaim.holds_of_wide 6 Try.f6 rfl rfl rfl rfl rfl rfl rfl ⟨rfl, rfl, rfl, rfl, rfl⟩ rfl rfl rfl rfl rfl (by kernel_rfl) Try.func6 (by kernel_rfl)
    (of_decide_eq_true (by kernel_rfl)) (by unfold Func.isWrapper; first | (rw [if_pos (by decide +kernel)]; kernel_rfl) | (rw [if_neg (by decide +kernel)]; exact ⟨rfl, rfl⟩))
    (fun os started H enc _ => editsWhole_lifted os started H enc)

end Go.Proofs.Ytfflfbnnohlipaa
