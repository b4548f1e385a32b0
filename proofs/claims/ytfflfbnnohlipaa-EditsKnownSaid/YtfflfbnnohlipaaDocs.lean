/- Documents and edits of them: in memory, and what becomes of them. -/
import Derived.Test.YtfflfbnnohlipaaLawKeeps
import Derived.Test.YtfflfbnnohlipaaInvert
namespace Go.Proofs.Ytfflfbnnohlipaa
open Go.RowKit
set_option linter.unusedVariables false
set_option linter.unusedSimpArgs false

structure Dc where
  uri : ByteArray
  text : ByteArray
  ver : Int
def Dc.cells (x : Dc) : List Value := [.string x.uri, .string x.text, .int .i64 x.ver]
theorem Dc.len (x : Dc) : x.cells.length = 3 := rfl
theorem Dc.one (x : Dc) : ∀ u ∈ x.cells, u.oneCell' = true := by simp [Dc.cells, Value.oneCell']
instance : Inhabited Dc := ⟨⟨⟨#[]⟩, ⟨#[]⟩, 0⟩⟩

/-- Edits of a document as they lie: where the splices are, too. -/
structure RDe where
  uri : ByteArray
  ver : Int
  A : Option Addr
  cap : Nat
  spl : List Spl
def RDe.cells (x : RDe) : List Value := [.string x.uri, .int .i64 x.ver, .slice x.A x.spl.length x.cap]
theorem RDe.len (x : RDe) : x.cells.length = 3 := rfl
theorem RDe.one (x : RDe) : ∀ u ∈ x.cells, u.oneCell' = true := by simp [RDe.cells, Value.oneCell']
instance : Inhabited RDe := ⟨⟨⟨#[]⟩, 0, none, 0, []⟩⟩

theorem Try.info43 : (Try.prog.info? 43).map (fun i => (i.zero, i.size, i.bytes)) = some (some (.agg #[.string ⟨#[]⟩, .string ⟨#[]⟩, .int .i64 0]), 3, 40) := by kernel_rfl
theorem Try.info45 : (Try.prog.info? 45).map (fun i => (i.zero, i.size, i.bytes)) = some (some (.agg #[.string ⟨#[]⟩, .int .i64 0, .slice none 0 0]), 3, 48) := by kernel_rfl

def DeepE (w : World) (B : Nat) (l : List RDe) : Prop := ∀ x ∈ l, RowOf Spl.cells 3 w B x.A x.spl
theorem DeepE.after {w w' : World} {B : Nat} {l : List RDe} (h : DeepE w B l) (hB : B ≤ w.heap.size) (hb : Below w.heap.size w w') : DeepE w' w'.heap.size l := fun x hx => (h x hx).after hB hb

theorem row3_at {α : Type} {cs : α → List Value} {w : World} {B : Nat} {A : Option Addr} {l : List α} {k : Nat} {x : α} {a b c : Value} (h : RowOf cs 3 w B A l) (hx : l[k]? = some x) (hc : cs x = [a, b, c]) : ∃ g off, A = some ⟨g, off, none⟩ ∧ g < B ∧
    w.cell? ⟨g, off + k * 3, none⟩ = some a ∧ w.cell? ⟨g, off + k * 3 + 1, none⟩ = some b ∧ w.cell? ⟨g, off + k * 3 + 2, none⟩ = some c := by
  have hlt : 0 < l.length := by
    cases l with
    | nil => simp at hx
    | cons _ _ => simp
  obtain ⟨g, off, e, hb, hh⟩ := h hlt
  refine ⟨g, off, e, hb, ?_, ?_, ?_⟩
  · exact hh k x hx 0 _ (by rw [hc]; rfl)
  · exact hh k x hx 1 _ (by rw [hc]; rfl)
  · exact hh k x hx 2 _ (by rw [hc]; rfl)

def setText : List Dc → Nat → ByteArray → List Dc
  | [], _, _ => []
  | o :: r, 0, t => { o with text := t } :: r
  | o :: r, n + 1, t => o :: setText r n t
theorem setText_len : ∀ (l : List Dc) (i : Nat) (t : ByteArray), (setText l i t).length = l.length := by
  intro l
  induction l with
  | nil => intro i t; rfl
  | cons o r ih => intro i t; cases i <;> simp [setText, ih]

/-- The first document of that URI. -/
def firstAt (docs : List Dc) (u : ByteArray) : Option Nat := docs.findIdx? fun d => decide (d.uri = u)

def stepW (docs : List Dc) (pre : List RDe) (x : RDe) (out : List Dc) : Except Int (List Dc) :=
  if pre.any (fun y => decide (y.uri = x.uri)) then .error 13
  else match firstAt docs x.uri with
    | none => .error 5
    | some i => if (docs[i]?.getD default).ver ≠ x.ver then .error 18
      else if applyE (docs[i]?.getD default).text x.spl ≠ 0 then .error (applyE (docs[i]?.getD default).text x.spl)
      else .ok (setText out i (applyB (docs[i]?.getD default).text x.spl))

def wholeR (docs : List Dc) : List RDe → List RDe → List Dc → Except Int (List Dc)
  | _, [], out => .ok out
  | pre, x :: r, out => match stepW docs pre x out with
    | .error e => .error e
    | .ok o => wholeR docs (pre ++ [x]) r o

def wholeV (docs : List Dc) (l : List RDe) : Except Int (List Dc) := wholeR docs [] l docs

theorem wholeR_err {docs : List Dc} {l : List RDe} {k : Nat} {x : RDe} {out : List Dc} {n : Int} (hx : l[k]? = some x) (h : wholeV docs l = wholeR docs (l.take k) (l.drop k) out) (hs : stepW docs (l.take k) x out = .error n) : wholeV docs l = .error n := by
  rw [h, drop_cons hx, wholeR, hs]
theorem wholeR_step {docs : List Dc} {l : List RDe} {k : Nat} {x : RDe} {out o : List Dc} (hx : l[k]? = some x) (h : wholeV docs l = wholeR docs (l.take k) (l.drop k) out) (hs : stepW docs (l.take k) x out = .ok o) :
    wholeV docs l = wholeR docs (l.take (k + 1)) (l.drop (k + 1)) o := by
  rw [h, drop_cons hx, wholeR, hs, take_snoc hx]

/-- The call hands back the documents as they are made, or nothing and the error. -/
def RetWhole (docs : List Dc) (l : List RDe) (e : Ending) (w : World) : Prop :=
  (∃ out, wholeV docs l = .ok out ∧ out.length = docs.length ∧ RetRow0 Dc.cells 3 out e w) ∨ (∃ n, wholeV docs l = .error n ∧ e = .returned (.tuple #[.slice none 0 0, .int .i64 n]))

/-- Documents and edits of a size that Whole is walked at. -/
def FineW (docs : List Dc) (l : List RDe) : Prop := docs.length ≤ 1000 ∧ l.length ≤ 1000 ∧ (∀ d ∈ docs, d.text.size ≤ 1500 ∧ d.uri.size ≤ 9223372036854775807) ∧ ∀ x ∈ l, x.spl.length ≤ 30 ∧ Small x.spl ∧ x.uri.size ≤ 9223372036854775807

theorem flat_setText : ∀ (l : List Dc) (i : Nat) (t : ByteArray), i < l.length → (setText l i t).flatMap Dc.cells = (l.flatMap Dc.cells).set (i * 3 + 1) (.string t) := by
  intro l
  induction l with
  | nil => intro i t h; simp at h
  | cons o r ih =>
    intro i t h
    cases i with
    | zero => simp [setText, Dc.cells]
    | succ i =>
      have := ih i t (by simpa using h)
      simp only [setText, List.flatMap_cons, this]
      rw [show (i + 1) * 3 + 1 = (i * 3 + 1) + 1 + 1 + 1 by omega]
      simp [Dc.cells]

/-- A document's Text put into a row of the call's own. -/
theorem own_setText {w : World} {B : Nat} {A : Option Addr} {n c : Nat} {l : List Dc} {i : Nat} {o : Dc} (h : Own Dc.cells 3 43 w B (.slice A n c) l) (ho : l[i]? = some o) (t : ByteArray) :
    ∃ g, A = some ⟨g, 0, none⟩ ∧ B ≤ g ∧ w.cell? ⟨g, i * 3 + 1, none⟩ = some (.string o.text) ∧ w.frozen? ⟨g, i * 3 + 1, none⟩ = false ∧ Own Dc.cells 3 43 (w.setCell ⟨g, i * 3 + 1, none⟩ (.string t)) B (.slice A n c) (setText l i t) := by
  have hlt : i < l.length := by
    rcases Nat.lt_or_ge i l.length with h' | h'
    · exact h'
    · rw [List.getElem?_eq_none h'] at ho; cases ho
  rcases h.2 with ⟨_, h0⟩ | ⟨g, cap, cur, e, hB, hg, hc, hm, hs, ht⟩
  · omega
  injection e with e1 e2 e3
  subst e1
  have hat : ∀ j, j < 3 → cur[i * 3 + j]? = o.cells[j]? := fun j hj => by
    have h1 : (cur.toList.take (l.length * 3))[i * 3 + j]? = cur[i * 3 + j]? := by rw [List.getElem?_take, if_pos (by omega), Array.getElem?_toList]
    rw [← h1, ht]
    obtain ⟨v, hv⟩ : ∃ v, o.cells[j]? = some v := ⟨o.cells[j]'(by rw [Dc.len]; exact hj), List.getElem?_eq_getElem _⟩
    rw [hv]
    exact flat_at Dc.len l i o ho j v hv
  refine ⟨g, rfl, hB, ?_, ?_, ?_⟩
  · rw [cell_of_row _ _ _ _ _ _ hg, hat 1 (by omega)]; rfl
  · simp [World.frozen?, hg]
  · refine ⟨?_, .inr ⟨g, cap, cur.setIfInBounds (i * 3 + 1) (.string t), by rw [setText_len, e2, e3], hB, ?_, by rw [setText_len]; exact hc, hm, by simp [hs], ?_⟩⟩
    · rw [flat_len Dc.len]
    · simp [World.setCell, Array.getElem?_modify, hg]
    · rw [setText_len, Array.toList_setIfInBounds, List.take_set, ht, flat_setText _ _ _ hlt]
end Go.Proofs.Ytfflfbnnohlipaa
