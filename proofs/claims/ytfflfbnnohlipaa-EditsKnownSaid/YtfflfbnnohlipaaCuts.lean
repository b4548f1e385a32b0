/- Cuts and parts: in memory, and what they stand for. -/
import Derived.Test.YtfflfbnnohlipaaKept
namespace Go.Proofs.Ytfflfbnnohlipaa
open Go.RowKit
set_option linter.unusedVariables false
set_option linter.unusedSimpArgs false

structure Prt where
  frm : Int
  to : Int
  text : ByteArray
  new : Bool

def Prt.cells (x : Prt) : List Value := [.int .i64 x.frm, .int .i64 x.to, .string x.text, .bool x.new]
theorem Prt.len (x : Prt) : x.cells.length = 4 := rfl
theorem Prt.one (x : Prt) : ∀ u ∈ x.cells, u.oneCell' = true := by simp [Prt.cells, Value.oneCell']
instance : Inhabited Prt := ⟨⟨0, 0, ⟨#[]⟩, false⟩⟩

/-- A cut as it lies: where its parts lie, too. -/
structure RCut where
  frm : Int
  to : Int
  A : Option Addr
  cap : Nat
  parts : List Prt

def RCut.cells (x : RCut) : List Value := [.int .i64 x.frm, .int .i64 x.to, .slice x.A x.parts.length x.cap]
theorem RCut.len (x : RCut) : x.cells.length = 3 := rfl
theorem RCut.one (x : RCut) : ∀ u ∈ x.cells, u.oneCell' = true := by simp [RCut.cells, Value.oneCell']
instance : Inhabited RCut := ⟨⟨0, 0, none, 0, []⟩⟩

/-- Each cut's parts lie where it says. -/
def Deep (w : World) (B : Nat) (l : List RCut) : Prop := ∀ x ∈ l, RowOf Prt.cells 4 w B x.A x.parts
theorem Deep.after {w w' : World} {B : Nat} {l : List RCut} (h : Deep w B l) (hB : B ≤ w.heap.size) (hb : Below w.heap.size w w') : Deep w' w'.heap.size l := fun x hx => (h x hx).after hB hb
theorem Deep.below {w w' : World} {B B' : Nat} {l : List RCut} (h : Deep w B l) (hb : Below B' w w') (hB : B ≤ B') : Deep w' B l := fun x hx => (h x hx).below hb hB

theorem Prt.at_ {w : World} {B : Nat} {A : Option Addr} {l : List Prt} {k : Nat} {x : Prt} (h : RowOf Prt.cells 4 w B A l) (hx : l[k]? = some x) : ∃ b off, A = some ⟨b, off, none⟩ ∧ b < B ∧
    w.cell? ⟨b, off + k * 4, none⟩ = some (.int .i64 x.frm) ∧ w.cell? ⟨b, off + k * 4 + 1, none⟩ = some (.int .i64 x.to) ∧ w.cell? ⟨b, off + k * 4 + 2, none⟩ = some (.string x.text) ∧
    w.cell? ⟨b, off + k * 4 + 3, none⟩ = some (.bool x.new) := by
  have hlt : 0 < l.length := by
    cases l with
    | nil => simp at hx
    | cons _ _ => simp
  obtain ⟨b, off, e, hb, hc⟩ := h hlt
  exact ⟨b, off, e, hb, hc k x hx 0 _ rfl, hc k x hx 1 _ rfl, hc k x hx 2 _ rfl, hc k x hx 3 _ rfl⟩
theorem RCut.at_ {w : World} {B : Nat} {A : Option Addr} {l : List RCut} {k : Nat} {x : RCut} (h : RowOf RCut.cells 3 w B A l) (hx : l[k]? = some x) : ∃ b off, A = some ⟨b, off, none⟩ ∧ b < B ∧
    w.cell? ⟨b, off + k * 3, none⟩ = some (.int .i64 x.frm) ∧ w.cell? ⟨b, off + k * 3 + 1, none⟩ = some (.int .i64 x.to) ∧ w.cell? ⟨b, off + k * 3 + 2, none⟩ = some (.slice x.A x.parts.length x.cap) := by
  have hlt : 0 < l.length := by
    cases l with
    | nil => simp at hx
    | cons _ _ => simp
  obtain ⟨b, off, e, hb, hc⟩ := h hlt
  exact ⟨b, off, e, hb, hc k x hx 0 _ rfl, hc k x hx 1 _ rfl, hc k x hx 2 _ rfl⟩

theorem Try.info62 : (Try.prog.info? 62).map (fun i => (i.zero, i.size, i.bytes)) = some (some (.agg #[.int .i64 0, .int .i64 0, .string ⟨#[]⟩, .bool false]), 4, 40) := by kernel_rfl
theorem Try.info65 : (Try.prog.info? 65).map (fun i => (i.zero, i.size, i.bytes)) = some (some (.agg #[.int .i64 0, .int .i64 0, .slice none 0 0]), 3, 40) := by kernel_rfl

/-- What a part stands for; none: it may not be. -/
def partV (text : ByteArray) (p : Prt) : Option ByteArray :=
  if p.new = true ∨ p.text ≠ ⟨#[]⟩ then some p.text
  else if p.frm < 0 ∨ p.to < p.frm ∨ (text.size : Int) < p.to then none
  else some (text.extract p.frm.toNat p.to.toNat)

def joinP (text : ByteArray) : List Prt → Option (List UInt8)
  | [] => some []
  | p :: r => (partV text p).bind fun a => (joinP text r).map fun b => a.data.toList ++ b

theorem joinP_append (text : ByteArray) (a b : List Prt) : joinP text (a ++ b) = (joinP text a).bind fun x => (joinP text b).map fun y => x ++ y := by
  induction a with
  | nil =>
    simp only [List.nil_append, joinP, Option.bind_some]
    cases joinP text b <;> simp
  | cons p a ih =>
    simp only [List.cons_append, joinP, ih]
    cases partV text p <;> cases joinP text a <;> cases joinP text b <;> simp
theorem joinP_bad {text : ByteArray} {l : List Prt} {k : Nat} {p : Prt} (hp : l[k]? = some p) (h : partV text p = none) : joinP text l = none := by
  rw [← List.take_append_drop k l, drop_cons hp, joinP_append]
  cases joinP text (l.take k) <;> simp [joinP, h]
theorem joinP_snoc {text : ByteArray} {l : List Prt} {k : Nat} {p : Prt} {acc : List UInt8} {s : ByteArray} (hp : l[k]? = some p) (ha : joinP text (l.take k) = some acc) (h : partV text p = some s) :
    joinP text (l.take (k + 1)) = some (acc ++ s.data.toList) := by
  rw [take_snoc hp, joinP_append, ha]
  simp [joinP, h]

/-- The splices of cuts; or the error's number. -/
def flatL (text : ByteArray) : List RCut → Except Int (List Spl)
  | [] => .ok []
  | c :: r => match joinP text c.parts with
    | none => .error 2
    | some b => if 65536 < b.length then .error 3 else (flatL text r).map fun l => ⟨c.frm, c.to, ⟨b.toArray⟩⟩ :: l

def flatE (text : ByteArray) (l : List RCut) : Int := match flatL text l with
  | .error e => e
  | .ok m => if fitsV text.size m then 0 else 2
def flatS (text : ByteArray) (l : List RCut) : List Spl := match flatL text l with
  | .error _ => []
  | .ok m => if fitsV text.size m then m else []

theorem flatL_append (text : ByteArray) (a b : List RCut) : flatL text (a ++ b) = (flatL text a).bind fun x => (flatL text b).map fun y => x ++ y := by
  induction a with
  | nil =>
    simp only [List.nil_append, flatL, Except.bind]
    cases flatL text b <;> simp [Except.map]
  | cons c a ih =>
    simp only [List.cons_append, flatL, ih]
    cases joinP text c.parts with
    | none => rfl
    | some s =>
      dsimp only
      split
      · rfl
      · cases flatL text a <;> cases flatL text b <;> simp [Except.map, Except.bind]
theorem flatL_bad {text : ByteArray} {l : List RCut} {k : Nat} {c : RCut} {acc : List Spl} {e : Int} (hc : l[k]? = some c) (ha : flatL text (l.take k) = .ok acc) (h : flatL text [c] = .error e) : flatL text l = .error e := by
  rw [← List.take_append_drop k l, drop_cons hc, flatL_append, ha]
  have : flatL text (c :: l.drop (k + 1)) = .error e := by
    rw [show c :: l.drop (k + 1) = [c] ++ l.drop (k + 1) from rfl, flatL_append, h]
    rfl
  rw [this]
  rfl
theorem flatL_snoc {text : ByteArray} {l : List RCut} {k : Nat} {c : RCut} {acc : List Spl} {b : List UInt8} (hc : l[k]? = some c) (ha : flatL text (l.take k) = .ok acc) (hj : joinP text c.parts = some b) (hb : ¬ 65536 < b.length) :
    flatL text (l.take (k + 1)) = .ok (acc ++ [⟨c.frm, c.to, ⟨b.toArray⟩⟩]) := by
  rw [take_snoc hc, flatL_append, ha]
  simp [flatL, hj, hb, Except.map, Except.bind]
theorem flatL_long {text : ByteArray} {c : RCut} {b : List UInt8} (hj : joinP text c.parts = some b) (hb : 65536 < b.length) : flatL text [c] = .error 3 := by
  simp [flatL, hj, hb]
theorem flatL_none {text : ByteArray} {c : RCut} (hj : joinP text c.parts = none) : flatL text [c] = .error 2 := by
  simp [flatL, hj]
theorem flatL_len {text : ByteArray} : ∀ {l : List RCut} {m : List Spl}, flatL text l = .ok m → m.length = l.length := by
  intro l
  induction l with
  | nil => intro m h; simp [flatL] at h; subst h; rfl
  | cons c l ih =>
    intro m h
    simp only [flatL] at h
    cases hj : joinP text c.parts with
    | none => rw [hj] at h; cases h
    | some b =>
      rw [hj] at h
      dsimp only at h
      split at h
      · cases h
      · cases hl : flatL text l with
        | error e => rw [hl] at h; cases h
        | ok m' =>
          rw [hl] at h
          simp only [Except.map, Except.ok.injEq] at h
          subst h
          simp [ih hl]

def RetPart (text : ByteArray) (p : Prt) (e : Ending) : Prop := e = .returned (.tuple #[.string ((partV text p).getD ⟨#[]⟩), .bool (partV text p).isSome])
theorem ret_part_text {text : ByteArray} {p : Prt} (h : p.new = true ∨ p.text ≠ ⟨#[]⟩) : RetPart text p (.returned (.tuple #[.string p.text, .bool true])) := by
  simp only [RetPart, partV, if_pos h]; rfl
theorem ret_part_bad {text : ByteArray} {p : Prt} (h : ¬ (p.new = true ∨ p.text ≠ ⟨#[]⟩)) (h2 : p.frm < 0 ∨ p.to < p.frm ∨ (text.size : Int) < p.to) : RetPart text p (.returned (.tuple #[.string ⟨#[]⟩, .bool false])) := by
  simp only [RetPart, partV, if_neg h, if_pos h2]; rfl
theorem ret_part_cut {text : ByteArray} {p : Prt} (h : ¬ (p.new = true ∨ p.text ≠ ⟨#[]⟩)) (h2 : ¬ (p.frm < 0 ∨ p.to < p.frm ∨ (text.size : Int) < p.to)) : RetPart text p (.returned (.tuple #[.string (text.extract p.frm.toNat p.to.toNat), .bool true])) := by
  simp only [RetPart, partV, if_neg h, if_neg h2]; rfl

end Go.Proofs.Ytfflfbnnohlipaa
