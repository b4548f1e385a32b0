/- edits.pieces: what stands one behind the other. -/
import Derived.Test.YtfflfbnnohlipaaIter
import Derived.Test.YtfflfbnnohlipaaCheck
import Derived.TacticsIn
import Derived.OwnWalkIn
import Derived.LoopIn
namespace Go.Proofs.Ytfflfbnnohlipaa
open Go.RowKit
set_option linter.unusedVariables false
set_option linter.unusedSimpArgs false

/-- What stands one behind the other in what splices make of a text, from byte p on. -/
def piecesFrom (text : ByteArray) : Nat → List Spl → List ByteArray
  | p, [] => [text.extract p text.size]
  | p, x :: r => text.extract p x.frm.toNat :: x.text :: piecesFrom text x.to.toNat r

/-- What the iterator leans on. -/
def KKp (bl bt : Nat) (A : Option Addr) (c : Nat) (l : List Spl) (text : ByteArray) (B : Nat) (W : World) : Prop :=
  W.cell? ⟨bl, 0, none⟩ = some (.slice A l.length c) ∧ W.cell? ⟨bt, 0, none⟩ = some (.string text) ∧ Row W B A l

def elS (text : ByteArray) (l : List Spl) (k : Nat) : ByteArray := (piecesFrom text 0 l)[k]?.getD ⟨#[]⟩
abbrev elp (text : ByteArray) (l : List Spl) (k : Nat) : Value := .string (elS text l k)

theorem pieces_len (text : ByteArray) : ∀ (l : List Spl) (p : Nat), (piecesFrom text p l).length = 2 * l.length + 1 := by
  intro l
  induction l with
  | nil => intro p; simp [piecesFrom]
  | cons x l ih => intro p; simp only [piecesFrom, List.length_cons, ih]; omega

theorem elp_at {text : ByteArray} {l : List Spl} {k j : Nat} {L : List ByteArray} {v : ByteArray} (hd : (piecesFrom text 0 l).drop k = L) (h : L[j]? = some v) : elp text l (k + j) = .string v := by
  unfold elp elS
  rw [← List.getElem?_drop, hd, h]
  rfl

set_option maxRecDepth 100000 in
set_option maxHeartbeats 1600000 in
theorem pieces1_hands (bl bt : Nat) (A : Option Addr) (c : Nat) (l : List Spl) (text : ByteArray) (B : Nat) (hl : l.length ≤ 1000000) (hf : fitsFrom text.size 0 l = true) :
    Hands Try.prog 47 #[.pointer (some ⟨bl, 0, none⟩), .pointer (some ⟨bt, 0, none⟩)] (2 * l.length + 1) (elp text l) (KKp bl bt A c l text B) := by
  intro lp J M W hM hJ hK hY h0
  refine (callsIn_wide (n := 0)).1 (callsIn_of_wp Try.func47 rfl trivial ?_)
  simp only [Try.ntmps47, List.size_toArray, List.length_cons, List.length_nil, Nat.reduceAdd, Nat.reduceSub, Array.replicate_succ, Array.replicate_zero, List.push_toArray, List.append_toArray, List.nil_append, List.cons_append]
  obtain ⟨⟨k1, k2, k3⟩, k4⟩ := hK 0 W h0
  have HK := Lib.hid hK
  have HY := Lib.hid hY
  have HJ := Lib.hid hJ
  have HM := Lib.hid hM
  have HFF := Lib.hid hf
  clear hK hY hJ hM hf k3
  gi_wp2_with fail
  have H0 := Lib.hid h0
  clear h0
  gi_loopw [4, 9] (fun t i wr => ∃ (k p : Nat), k ≤ l.length ∧ i = .int .i64 k ∧ t = .int .i64 p ∧ p ≤ text.size ∧ fitsFrom text.size p (l.drop k) = true ∧ (piecesFrom text 0 l).drop (2 * k) = piecesFrom text p (l.drop k) ∧ J (2 * k) wr) (fun _ i _ => l.length - (intOf i).toNat)
  case atStart => exact ⟨0, 0, Nat.zero_le _, rfl, rfl, Nat.zero_le _, HFF.out, rfl, H0.out⟩
  case round =>
    obtain ⟨k, p, hk, rfl, rfl, hp, hf, hd, hj⟩ := hrel
    obtain ⟨⟨c1, c2, c3⟩, c4⟩ := HK.out _ _ hj
    by_cases hlt : k < l.length
    · obtain ⟨x, hx⟩ := get_some hlt
      obtain ⟨b, off, rfl, hbl, h1, h2, h3⟩ := Spl.at_ c3 hx
      rw [drop_cons hx, fitsFrom] at hf
      rw [drop_cons hx, piecesFrom] at hd
      split at hf
      · cases hf
      rename_i hno
      have e0 : elp text l (2 * k) = .string (text.extract p x.frm.toNat) := elp_at (j := 0) hd rfl
      have e1 : elp text l (2 * k + 1) = .string x.text := elp_at (j := 1) hd rfl
      have hd2 : (piecesFrom text 0 l).drop (2 * (k + 1)) = piecesFrom text x.to.toNat (l.drop (k + 1)) := by
        rw [show 2 * (k + 1) = 2 * k + 2 by omega, ← List.drop_drop, hd]; rfl
      obtain ⟨f0, t0, a0, b0, hy0, hR0⟩ := HY.out (2 * k) _ (HJ.out _ _ (wr.alloc (.cells #[.int .i64 x.frm, .int .i64 x.to, .string x.text] 33)) hj (((Below.refl _ _).alloc (Nat.le_refl _) _))) (by omega)
      rw [e0] at hy0
      have hxf : (0 : Int) ≤ x.frm := by omega
      have hxf2 : x.frm ≤ (text.size : Int) := by omega
      have hxp : (p : Int) ≤ x.frm := by omega
      have HX := Lib.hid hx
      have HD := Lib.hid hd2
      have HF2 := Lib.hid hf
      have HE1 := Lib.hid e1
      have HNO := Lib.hid hno
      clear hx hd hd2 hf e0 e1 hno
      have hbt : bt < wr.heap.size := World.block_lt_of_cell? _ _ c2
      gi_wp2
      refine ⟨rfl, hR0.mono ?_⟩
      rintro e W3 ⟨rfl, hj3, hk3⟩
      have hs3 := hk3.1
      simp only [World.size_alloc] at hs3
      have hMx : ¬ M wr.heap.size := fun h => by have := HM.out _ h; omega
      have q0 : W3.cell? ⟨wr.heap.size, 0, none⟩ = some (.int .i64 x.frm) := (hk3.cell (p := ⟨wr.heap.size, 0, none⟩) (by simp) hMx).trans (by rw [World.cell?_alloc_at _ _ _ _ rfl]; rfl)
      have q1 : W3.cell? ⟨wr.heap.size, 1, none⟩ = some (.int .i64 x.to) := (hk3.cell (p := ⟨wr.heap.size, 1, none⟩) (by simp) hMx).trans (by rw [World.cell?_alloc_at _ _ _ _ rfl]; rfl)
      have q2 : W3.cell? ⟨wr.heap.size, 2, none⟩ = some (.string x.text) := (hk3.cell (p := ⟨wr.heap.size, 2, none⟩) (by simp) hMx).trans (by rw [World.cell?_alloc_at _ _ _ _ rfl]; rfl)
      obtain ⟨f1, t1, a1, b1, hy1, hR1⟩ := HY.out (2 * k + 1) W3 hj3 (by omega)
      rw [HE1.out] at hy1
      clear hy0
      gi_wp2
      refine ⟨rfl, hR1.mono ?_⟩
      rintro e W4 ⟨rfl, hj4, hk4⟩
      have r1 : W4.cell? ⟨wr.heap.size, 1, none⟩ = some (.int .i64 x.to) := (hk4.cell (p := ⟨wr.heap.size, 1, none⟩) (by simp; omega) hMx).trans q1
      clear hy1 q0 q1 q2 c1 c2 c3 h1 h2 h3
      have HJ4 := Lib.hid hj4
      clear hj3 hj4 hk3 hk4 hj
      gi_wp2
      go_roundw
      case rel => exact ⟨k + 1, x.to.toNat, by omega, by go_num, by have := HNO.out; go_num, by have := HNO.out; omega, by have := HNO.out; rw [show ((x.to.toNat : Nat) : Int) = x.to by omega]; exact HF2.out, HD.out, HJ4.out⟩
      case measure => simp [intOf]; omega
    · obtain rfl : k = l.length := by omega
      rw [List.drop_length, piecesFrom] at hd
      have e0 : elp text l (2 * l.length) = .string (text.extract p text.size) := elp_at (j := 0) hd rfl
      obtain ⟨f0, t0, a0, b0, hy0, hR0⟩ := HY.out (2 * l.length) wr hj (by omega)
      rw [e0] at hy0
      clear hd hf e0
      gi_wp2
      refine ⟨rfl, hR0.mono ?_⟩
      rintro e W3 ⟨rfl, hj3, hk3⟩
      gi_wp2
      go_end0
      exact ⟨⟨_, rfl⟩, hj3⟩
end Go.Proofs.Ytfflfbnnohlipaa
