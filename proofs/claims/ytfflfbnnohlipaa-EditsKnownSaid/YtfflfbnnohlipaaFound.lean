/- edits.Whole's closure, slices.IndexFunc and ContainsFunc at it, slices.Clone of documents. -/
import Derived.Test.YtfflfbnnohlipaaDocs
import Derived.Test.YtfflfbnnohlipaaMem3
import Derived.Lib.SliceRun
namespace Go.Proofs.Ytfflfbnnohlipaa
open Go.RowKit
set_option linter.unusedVariables false
set_option linter.unusedSimpArgs false

theorem str_ne {a b : ByteArray} (h : ¬ a = b) : ¬ a.toList = b.toList := fun e => h (by
  rw [Lib.toList_data, Lib.toList_data] at e
  cases a; cases b
  simpa using e)

theorem same_uri (g : Nat) (x : RDe) (u : ByteArray) (w : World) (h0 : w.cell? ⟨g, 0, none⟩ = some (.string u)) (hg : g < w.heap.size) :
    Calls Try.prog 36 #[.agg #[.string x.uri, .int .i64 x.ver, .slice x.A x.spl.length x.cap], .pointer (some ⟨g, 0, none⟩)] w fun e w' => e = .returned (.bool (decide (x.uri = u))) ∧ Below w.heap.size w w' := by
  by_cases h : x.uri = u
  · have H := Lib.hid h
    subst h
    go_enter Try.func36, Try.ntmps36
    go_wp2
    go_ret
    exact ⟨by simp, (Below.refl _ _).alloc (Nat.le_refl _) _⟩
  · have h2 := str_ne h
    go_enter Try.func36, Try.ntmps36
    go_wp2
    go_ret
    exact ⟨by simp [h, h2], (Below.refl _ _).alloc (Nat.le_refl _) _⟩

set_option maxRecDepth 100000 in
set_option maxHeartbeats 1600000 in
theorem index_any (A : Option Addr) (c g : Nat) (l : List RDe) (u : ByteArray) (w : World) (hl : l.length ≤ 1000) (hr : RowOf RDe.cells 3 w w.heap.size A l) (h0 : w.cell? ⟨g, 0, none⟩ = some (.string u)) (hg : g < w.heap.size) :
    Calls Try.prog 48 #[.slice A l.length c, .func (.func 36) #[] #[.pointer (some ⟨g, 0, none⟩)]] w fun e w' => (∃ n : Int, e = .returned (.int .i64 n) ∧ (0 ≤ n ↔ l.any (fun y => decide (y.uri = u)) = true)) ∧ Below w.heap.size w w' := by
  have HR := Lib.hid hr
  clear hr
  go_enter Try.func48, Try.ntmps48
  go_wp2_with fail
  go_loopw [8] (fun i wr => ∃ (k : Nat), k ≤ l.length ∧ i = .int .i64 k ∧ (l.take k).any (fun y => decide (y.uri = u)) = false ∧ Below w.heap.size w wr) (fun i _ => l.length - (intOf i).toNat)
  case atStart => exact ⟨0, Nat.zero_le _, rfl, rfl, Below.refl _ _⟩
  case round =>
    obtain ⟨k, hk, rfl, hno, hb⟩ := hrel
    have HN := Lib.hid hno
    have HB := Lib.hid hb
    clear hno
    by_cases hlt : k < l.length
    · obtain ⟨x, hx⟩ := get_some hlt
      obtain ⟨xu, xv, xA, xc, xs⟩ := x
      obtain ⟨b, off, rfl, hbl, h1, h2, h3⟩ := row3_at (HR.out.below hb (Nat.le_refl _)) hx rfl
      have hsn := take_snoc hx
      have HS := Lib.hid hsn
      have HX := Lib.hid hx
      have h0' : wr.cell? ⟨g, 0, none⟩ = some (.string u) := (hb.cell (p := ⟨g, 0, none⟩) hg).trans h0
      have hbs := hb.size
      have HC := Lib.hid (same_uri g ⟨xu, xv, xA, xc, xs⟩ u wr h0' (by omega))
      clear hx hsn hb h0'
      dsimp only at HC
      by_cases hu : xu = u
      · have hd : decide (xu = u) = true := by simpa using hu
        have HD := Lib.hid hd
        have HU := Lib.hid hu
        clear hd hu
        go_wp2_with (go_at_call 36; refine HC.out.mono ?_; rw [HD.out]; rintro e w2 ⟨rfl, hb2⟩)
        go_ret
        have hany : l.any (fun y => decide (y.uri = u)) = true := List.any_eq_true.2 ⟨_, List.mem_of_getElem? HX.out, HD.out⟩
        exact ⟨⟨(k : Int), rfl, by rw [hany]; simp⟩, below_then HB.out hb2⟩
      · have hd : decide (xu = u) = false := by simpa using hu
        have HD := Lib.hid hd
        clear hd hu
        go_wp2_with (go_at_call 36; refine HC.out.mono ?_; rw [HD.out]; rintro e w2 ⟨rfl, hb2⟩)
        go_roundw
        case rel => exact ⟨k + 1, by omega, by go_num, by rw [HS.out, List.any_append, HN.out]; simpa using HD.out, below_then HB.out hb2⟩
        case measure => simp [intOf]; omega
    · obtain rfl : k = l.length := by omega
      have hno := HN.out
      rw [List.take_length] at hno
      have HN2 := Lib.hid hno
      clear hno
      go_wp2
      go_ret
      exact ⟨⟨-1, rfl, by rw [HN2.out]; simp⟩, HB.out⟩

set_option maxRecDepth 100000 in
theorem contains_any (A : Option Addr) (c g : Nat) (l : List RDe) (u : ByteArray) (w : World) (hl : l.length ≤ 1000) (hr : RowOf RDe.cells 3 w w.heap.size A l) (h0 : w.cell? ⟨g, 0, none⟩ = some (.string u)) (hg : g < w.heap.size) :
    Calls Try.prog 35 #[.slice A l.length c, .func (.func 36) #[] #[.pointer (some ⟨g, 0, none⟩)]] w fun e w' => e = .returned (.bool (l.any (fun y => decide (y.uri = u)))) ∧ Below w.heap.size w w' := by
  have HC := Lib.hid (index_any A c g l u w hl hr h0 hg)
  clear hr h0
  go_enter Try.func35, Try.ntmps35
  go_wp2_with (go_at_call 48; refine HC.out.mono ?_; rintro e w2 ⟨⟨n, rfl, hn⟩, hb2⟩)
  go_ret
  refine ⟨?_, hb2⟩
  apply ret_bool
  rw [Bool.eq_iff_iff]
  simp [List.any_eq_true]

theorem i43 : (Try.prog.info? 43).map (fun i => (i.zero, i.size, i.bytes)) = some (some (.agg #[.string ⟨#[]⟩, .string ⟨#[]⟩, .int .i64 0]), 3, 40) := Try.info43

set_option maxRecDepth 100000 in
set_option maxHeartbeats 1600000 in
theorem clone_any (A : Option Addr) (c : Nat) (l : List Dc) (w : World) (hl : l.length ≤ 1000) (hr : RowOf Dc.cells 3 w w.heap.size A l) (hnil : A = none → l.length = 0 ∧ c = 0) :
    Calls Try.prog 34 #[.slice A l.length c] w fun e w' => (∃ v, e = .returned v ∧ Own Dc.cells 3 43 w' w.heap.size v l) ∧ Below w.heap.size w w' := by
  obtain ⟨i43, hi43, hz0, hz1, hz2⟩ := info_parts Try.info43
  have HR := Lib.hid hr
  clear hr
  have hq : ∀ (W : World) (A : Option Addr) (n c : Nat), (binOp .eql 38 (.slice A n c) (.slice none 0 0)).run Try.prog W = .ok (.bool A.isNone) W := fun W A n c => Lib.run_eql_slice_nil W 38 43 A n c 0 0 Try.underlying38
  cases A with
  | none =>
    obtain ⟨h0, rfl⟩ := hnil rfl
    obtain rfl : l = [] := List.eq_nil_of_length_eq_zero h0
    go_enter Try.func34, Try.ntmps34
    go_wp2
    go_ret
    exact ⟨⟨_, rfl, Own.nil_⟩, Below.refl _ _⟩
  | some a =>
    clear hnil
    have hown : Own Dc.cells 3 43 (w.alloc (.cells #[] 43)) w.heap.size (.slice (some ⟨w.heap.size, 0, none⟩) 0 0) [] :=
      ⟨rfl, .inr ⟨w.heap.size, 0, #[], rfl, Nat.le_refl _, heap_alloc_new w _, Nat.le_refl _, Nat.zero_le _, rfl, rfl⟩⟩
    have HO := Lib.hid hown
    clear hown
    go_enter Try.func34, Try.ntmps34
    go_wp2_with (at_builtin; go_must (refine wpList_append_row (cs := Dc.cells) rfl _ _ 38 rfl 43 i43 _ 40 Try.underlying38 hi43 hz0 hz1 hz2 rfl (by decide) Dc.len Dc.one _ w.heap.size w.heap.size (.slice (some ⟨w.heap.size, 0, none⟩) 0 0) [] l a l.length c (by rfl) (by rfl) rfl HO.out (HR.out.alloc (Nat.le_refl _) _) (by unfold maxLen; simp; omega) (by simp; omega) (by simp) ?_); intro v' w' hown' hg hat)
    go_ret
    exact ⟨⟨_, rfl, by simpa using hown'⟩, below_grown ((Below.refl _ _).alloc (Nat.le_refl _) _) HO.out (by simp) hg⟩
end Go.Proofs.Ytfflfbnnohlipaa
