/- A memo in memory. Generic over the program and the values. -/
import Derived.Test.YtjghbcligjiaaaaRowOff
import Derived.Test.YtjghbcligjiaaaaTie
namespace Go.Proofs.Ytjghbcligjiaaaa
open Go.RowKit Go.Maps
set_option linter.unusedVariables false

/-- A key that is being made. -/
structure Fl where
  who : Int
  wait : List Int
  blk : Nat
  ws : Value
  ch : Nat
/-- What a memo holds. -/
structure MS (τ : Type) where
  most : Nat
  kept : List (ByteArray × τ)
  making : List (ByteArray × Fl)
/-- Where it lies. -/
structure MB where
  m : Nat
  bv : Nat
  bf : Nat
  us : Value
  bs : Value
/-- The types' numbers, and how a value lies in a cell. -/
structure MT (τ : Type) where
  str : TypeId
  int : TypeId
  val : TypeId
  memo : TypeId
  fl : TypeId
  enc : τ → Value
  zero : Value
  rdv : τ → DataW Unit

def own (v : Value) : List Nat := v.ownBlock.toList
def flFoot (f : Fl) : List Nat := f.blk :: f.ch :: own f.ws
def foot {τ : Type} (S : MS τ) (B : MB) : List Nat := B.m :: B.bv :: B.bf :: (own B.us ++ (own B.bs ++ S.making.flatMap (fun p => flFoot p.2)))

section
variable {τ : Type} (P : Program) (T : MT τ)
def memoCells (st : Int) (S : MS τ) (B : MB) : Array Value := #[.int .i32 st, .int .u32 0, .int .i64 S.most, .map (some B.bv), B.us, .map (some B.bf), B.bs]
structure FlAt (w : World) (f : Fl) : Prop where
  obj : w.heap[f.blk]? = some (.cells #[.int .i64 f.who, f.ws, .chan (some f.ch), T.zero] T.fl (0, 0))
  row : OffRow T.int w f.ws (f.wait.map (Value.int .i64))
  chan : w.heap[f.ch]? = some (.chan 0 #[] false 0 0 false)
structure MemoAt (w : World) (st : Int) (S : MS τ) (B : MB) : Prop where
  obj : w.heap[B.m]? = some (.cells (memoCells st S B) T.memo (0, 0))
  vals : ∃ D, w.ownsMap P T.str (plainElem P T.val) B.bv S.kept.length D ∧ Tie T.rdv D S.kept
  flts : ∃ D, w.ownsMap P T.str ptrElem B.bf S.making.length D ∧ Tie (fun f : Fl => rdp f.blk) D S.making
  used : OffRow T.str w B.us (S.kept.map (fun p => Value.string p.1))
  began : OffRow T.str w B.bs (S.making.map (fun p => Value.string p.1))
  fls : ∀ p ∈ S.making, FlAt T w p.2
  nodup : (foot S B).Nodup
  ukept : (keys S.kept).Nodup
  umaking : (keys S.making).Nodup
  apart : ∀ k ∈ keys S.kept, k ∉ keys S.making
variable {P T} {w w' : World} {st : Int} {S : MS τ} {B : MB}
theorem mem_own {v : Value} {k : Nat} : k ∈ own v ↔ v.ownBlock = some k := by unfold own; cases v.ownBlock <;> simp [eq_comm]
theorem foot_us {k : Nat} (h : B.us.ownBlock = some k) : k ∈ foot S B := by
  unfold foot; simp [mem_own.2 h]
theorem foot_bs {k : Nat} (h : B.bs.ownBlock = some k) : k ∈ foot S B := by
  unfold foot; simp [mem_own.2 h]
theorem foot_fl {p : ByteArray × Fl} (hp : p ∈ S.making) {k : Nat} (h : k ∈ flFoot p.2) : k ∈ foot S B := by
  unfold foot
  simp only [List.mem_cons, List.mem_append, List.mem_flatMap]
  exact .inr (.inr (.inr (.inr (.inr ⟨p, hp, h⟩))))
theorem FlAt.keep {f : Fl} (h : FlAt T w f) (hk : ∀ b ∈ flFoot f, w'.heap[b]? = w.heap[b]?) : FlAt T w' f := by
  refine ⟨?_, h.row.keep fun k hk2 => hk k ?_, ?_⟩
  · rw [hk _ (by simp [flFoot])]; exact h.obj
  · simp [flFoot, mem_own.2 hk2]
  · rw [hk _ (by simp [flFoot])]; exact h.chan
theorem MemoAt.keep (h : MemoAt P T w st S B) (hk : ∀ b ∈ foot S B, w'.heap[b]? = w.heap[b]?) : MemoAt P T w' st S B := by
  obtain ⟨D, h1, h2⟩ := h.vals
  obtain ⟨E, h3, h4⟩ := h.flts
  refine ⟨?_, ⟨D, owns_keep h1 (hk _ (by simp [foot])), h2⟩, ⟨E, owns_keep h3 (hk _ (by simp [foot])), h4⟩, h.used.keep fun k hu => hk k (foot_us hu), h.began.keep fun k hu => hk k (foot_bs hu), fun p hp => (h.fls p hp).keep fun b hb => hk b (foot_fl hp hb), h.nodup, h.ukept, h.umaking, h.apart⟩
  rw [hk _ (by simp [foot])]; exact h.obj
theorem MemoAt.lt (h : MemoAt P T w st S B) : ∀ b ∈ foot S B, b < w.heap.size := by
  intro b hb
  obtain ⟨D, h1, _⟩ := h.vals
  obtain ⟨E, h3, _⟩ := h.flts
  unfold foot at hb
  simp only [List.mem_cons, List.mem_append, List.mem_flatMap] at hb
  rcases hb with rfl | rfl | rfl | hb | hb | ⟨p, hp, hb⟩
  · exact (Array.getElem?_eq_some_iff.1 h.obj).1
  · exact h1.lt
  · exact h3.lt
  · exact h.used.lt b (mem_own.1 hb)
  · exact h.began.lt b (mem_own.1 hb)
  · have hf := h.fls p hp
    simp only [flFoot, List.mem_cons] at hb
    rcases hb with rfl | rfl | hb
    · exact (Array.getElem?_eq_some_iff.1 hf.obj).1
    · exact (Array.getElem?_eq_some_iff.1 hf.chan).1
    · exact hf.row.lt b (mem_own.1 hb)
/-- Only blocks of F, and new ones, turn. -/
structure Only (F : List Nat) (w w' : World) : Prop where
  os : w'.os = w.os
  tape : w'.tape = w.tape
  output : w'.output = w.output
  size : w.heap.size ≤ w'.heap.size
  block : ∀ b, b < w.heap.size → b ∉ F → w'.heap[b]? = w.heap[b]?
theorem Only.refl (F : List Nat) (w : World) : Only F w w := ⟨rfl, rfl, rfl, Nat.le_refl _, fun _ _ _ => rfl⟩
theorem Only.trans {F : List Nat} {a b c : World} (h : Only F a b) (k : Only F b c) : Only F a c :=
  ⟨k.os.trans h.os, k.tape.trans h.tape, k.output.trans h.output, Nat.le_trans h.size k.size, fun i hi hf => (k.block i (Nat.lt_of_lt_of_le hi h.size) hf).trans (h.block i hi hf)⟩
theorem Only.mono {F G : List Nat} {a b : World} (h : Only F a b) (hs : ∀ x ∈ F, x ∈ G) : Only G a b := ⟨h.os, h.tape, h.output, h.size, fun i hi hf => h.block i hi (fun hx => hf (hs i hx))⟩
/-- Blocks of a list that are new count for nothing. -/
theorem Only.later {F G : List Nat} {a b c : World} (h : Only F a b) (k : Only G b c) (hG : ∀ x ∈ G, x ∈ F ∨ a.heap.size ≤ x) : Only F a c :=
  ⟨k.os.trans h.os, k.tape.trans h.tape, k.output.trans h.output, Nat.le_trans h.size k.size, fun i hi hf => (k.block i (Nat.lt_of_lt_of_le hi h.size) (fun hx => by rcases hG i hx with h1 | h1; exact hf h1; omega)).trans (h.block i hi hf)⟩
theorem Only.below {F : List Nat} {a b : World} (h : Below a.heap.size a b) : Only F a b := ⟨h.os, h.tape, h.output, h.size, fun i hi _ => h.block i hi⟩
theorem Only.grown {F : List Nat} {a b : World} {row : Option Nat} (h : a.grownBy b row) (hr : ∀ k, row = some k → k ∈ F) : Only F a b :=
  ⟨h.os, h.tape, h.output, h.size, fun i hi hf => h.block i hi (fun e => hf (hr i e.symm))⟩
end
end Go.Proofs.Ytjghbcligjiaaaa
