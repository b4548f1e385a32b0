/- Pieces joined into a row of bytes. -/
import Derived.Test.YtfflfbnnohlipaaPieces
import Derived.Lib.BufferWrite
import Derived.Laws.MakeOwn
import Derived.Laws.IdiomStrings
namespace Go.Proofs.Ytfflfbnnohlipaa
open Go.RowKit
set_option linter.unusedVariables false
set_option linter.unusedSimpArgs false

def totalV (L : List ByteArray) : Nat := (L.map ByteArray.size).sum
theorem total_step {L : List ByteArray} {k : Nat} (hk : k < L.length) : totalV (L.take (k + 1)) = totalV (L.take k) + (L[k]?.getD ⟨#[]⟩).size ∧ totalV (L.take (k + 1)) ≤ totalV L := by
  obtain ⟨x, hx⟩ := get_some hk
  have h1 : totalV (L.take (k + 1)) = totalV (L.take k) + x.size := by rw [take_snoc hx]; simp [totalV]
  refine ⟨by rw [h1, hx]; rfl, ?_⟩
  have h2 : totalV L = totalV (L.take (k + 1)) + totalV (L.drop (k + 1)) := by
    simp only [totalV]
    rw [← List.sum_append, ← List.map_append, List.take_append_drop]
  omega
def joinV (L : List ByteArray) : List UInt8 := L.flatMap fun s => s.data.toList

theorem size_list (s : ByteArray) : s.data.toList.length = s.size := rfl
theorem join_len (L : List ByteArray) : (joinV L).length = totalV L := by
  induction L with
  | nil => rfl
  | cons s L ih =>
    simp only [joinV, totalV, List.flatMap_cons, List.length_append, List.map_cons, List.sum_cons, size_list] at *
    omega

/-- The row of n bytes behind k pieces. -/
def fillC (L : List ByteArray) (k n : Nat) : List Value := Lib.byteCells (joinV (L.take k)) ++ List.replicate (n - totalV (L.take k)) (Value.int .u8 0)

theorem fill_zero (L : List ByteArray) (n : Nat) : fillC L 0 n = List.replicate n (Value.int .u8 0) := by simp [fillC, joinV, totalV, Lib.byteCells]
theorem fill_all (L : List ByteArray) : fillC L L.length (totalV L) = Lib.byteCells (joinV L) := by simp [fillC]
theorem fill_len {L : List ByteArray} {k n : Nat} (h : totalV (L.take k) ≤ n) : (fillC L k n).length = n := by
  simp only [fillC, List.length_append, Lib.byteCells_length, List.length_replicate, join_len]
  omega
theorem fill_step {L : List ByteArray} {k n : Nat} (hk : k < L.length) :
    (fillC L k n).take (totalV (L.take k)) ++ Lib.byteCells (L[k]?.getD ⟨#[]⟩).data.toList ++ (fillC L k n).drop (totalV (L.take k) + (L[k]?.getD ⟨#[]⟩).size) = fillC L (k + 1) n := by
  obtain ⟨x, hx⟩ := get_some hk
  obtain ⟨h1, _⟩ := total_step hk
  unfold fillC
  rw [h1, take_snoc hx, hx]
  have e : (Lib.byteCells (joinV (L.take k))).length = totalV (L.take k) := by rw [Lib.byteCells_length, join_len]
  rw [List.take_append_of_le_length (by omega), List.take_of_length_le (by omega), ← e, List.drop_append, List.drop_eq_nil_of_le (by omega), List.nil_append]
  simp only [joinV, List.flatMap_append, List.flatMap_cons, List.flatMap_nil, List.append_nil, Lib.byteCells_append, Option.getD_some, Nat.add_sub_cancel_left, List.drop_replicate]
  simp only [Lib.byteCells_length] at *
  rw [Nat.sub_sub]

theorem run_make_bytes {P : Program} (t e : TypeId) (ht : P.underlying t = some (.slice e)) (hi : (P.info? e).map (fun i => (i.zero, i.size, i.bytes)) = some (some (.int .u8 0), 1, 1)) (n : Nat) (hn : n ≤ 281474976710656) (W : World) :
    (Instr.makeSlice t (.int .i64 (n : Int)) (.int .i64 (n : Int))).run P W = .ok (.slice (some ⟨W.heap.size, 0, none⟩) n n) (W.alloc (.cells (List.replicate n (Value.int .u8 0)).toArray e)) := by
  obtain ⟨i, hi0, hz, hs, hb⟩ := info_parts hi
  have hr := run_make (P := P) W t e i _ ht hi0 hz .i64 .i64 n n (by omega) (by omega) (by rw [hb]; omega) (by omega)
  simp only [Int.toNat_natCast, hs, Nat.mul_one] at hr
  rw [hr]
  congr 3
  apply Array.toList_inj.1
  rw [show (Value.int .u8 0).cells = #[.int .u8 0] from rfl, toList_madeCells_one]

end Go.Proofs.Ytfflfbnnohlipaa
