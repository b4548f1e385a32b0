/- Splices in memory. -/
import Derived.Test.YtfflfbnnohlipaaRows
import Derived.Test.YtfflfbnnohlipaaMem
namespace Go.Proofs.Ytfflfbnnohlipaa
open Go.RowKit

/-- A splice. -/
structure Spl where
  frm : Int
  to : Int
  text : ByteArray
  deriving DecidableEq

def Spl.cells (x : Spl) : List Value := [.int .i64 x.frm, .int .i64 x.to, .string x.text]
theorem Spl.len (x : Spl) : x.cells.length = 3 := rfl
theorem Spl.one (x : Spl) : ∀ u ∈ x.cells, u.oneCell' = true := by simp [Spl.cells, Value.oneCell']

abbrev Row (w : World) (B : Nat) (A : Option Addr) (l : List Spl) : Prop := RowOf Spl.cells 3 w B A l
abbrev OwnS (w : World) (B : Nat) (v : Value) (l : List Spl) : Prop := Own Spl.cells 3 33 w B v l

theorem Spl.at_ {w : World} {B : Nat} {A : Option Addr} {l : List Spl} {k : Nat} {x : Spl} (h : Row w B A l) (hx : l[k]? = some x) : ∃ b off, A = some ⟨b, off, none⟩ ∧ b < B ∧
    w.cell? ⟨b, off + k * 3, none⟩ = some (.int .i64 x.frm) ∧ w.cell? ⟨b, off + k * 3 + 1, none⟩ = some (.int .i64 x.to) ∧ w.cell? ⟨b, off + k * 3 + 2, none⟩ = some (.string x.text) := by
  have hlt : 0 < l.length := by
    cases l with
    | nil => simp at hx
    | cons _ _ => simp
  obtain ⟨b, off, e, hb, hc⟩ := h hlt
  exact ⟨b, off, e, hb, hc k x hx 0 _ rfl, hc k x hx 1 _ rfl, hc k x hx 2 _ rfl⟩

theorem Try.info33 : (Try.prog.info? 33).map (fun i => (i.zero, i.size, i.bytes)) = some (some (.agg #[.int .i64 0, .int .i64 0, .string ⟨#[]⟩]), 3, 32) := by kernel_rfl

end Go.Proofs.Ytfflfbnnohlipaa
