/- edits.Invert. -/
import Derived.Test.YtfflfbnnohlipaaBack
import Derived.Test.YtfflfbnnohlipaaMem2
namespace Go.Proofs.Ytfflfbnnohlipaa
open Go.RowKit
set_option linter.unusedVariables false
set_option linter.unusedSimpArgs false

/-- The call hands back a slice that reads as l, and OK. -/
def RetRow0 {α : Type} (cs : α → List Value) (sz : Nat) (l : List α) (e : Ending) (w : World) : Prop := ∃ A c, e = .returned (.tuple #[.slice A l.length c, .int .i64 0]) ∧ RowOf cs sz w w.heap.size A l

set_option maxHeartbeats 1600000 in
theorem invert_no (A : Option Addr) (c : Nat) (m : List Spl) (text : ByteArray) (w : World) (hm : m.length ≤ 30) (hs : Small m) (ht : text.size ≤ 65536) (hr : Row w w.heap.size A m) (he : applyE text m ≠ 0) :
    Calls Try.prog 17 #[.string text, .slice A m.length c] w fun e w' => e = .returned (.tuple #[.slice none 0 0, .int .i64 (applyE text m)]) ∧ Below w.heap.size w w' := by
  have hc := apply_small A c m text w hm hs (by omega) hr
  unfold RetApply at hc
  have hne : (applyE text m != 0) = true := by simpa using he
  generalize applyE text m = ee at *
  generalize applyB text m = S at *
  have HC := Lib.hid hc
  clear hc he hs hr
  go_enter Try.func17, Try.ntmps17
  go_wp2_with (go_at_call 16; refine HC.out.mono ?_; rintro e w1 ⟨rfl, hb1⟩)
  go_ret2
  exact ⟨rfl, hb1⟩

set_option maxRecDepth 100000 in
set_option maxHeartbeats 3200000 in
theorem invert_yes (A : Option Addr) (c : Nat) (m : List Spl) (text : ByteArray) (w : World) (hm : m.length ≤ 30) (hs : Small m) (ht : text.size ≤ 65536) (hr : Row w w.heap.size A m) (he : applyE text m = 0) :
    Calls Try.prog 17 #[.string text, .slice A m.length c] w fun e w' => RetRow0 Spl.cells 3 (invertV text m) e w' ∧ Below w.heap.size w w' := by
  obtain ⟨i33, hi33, hz0, hz1, hz2⟩ := info_parts Try.info33
  have hf : fitsFrom text.size 0 m = true := by
    unfold applyE at he
    split at he
    · assumption
    · cases he
  have hc := apply_small A c m text w hm hs (by omega) hr
  unfold RetApply at hc
  rw [he] at hc
  generalize applyB text m = S at *
  have HC := Lib.hid hc
  have HF := Lib.hid hf
  have HS := Lib.hid hs
  have HR := Lib.hid hr
  clear hc he hs hr hf
  go_enter Try.func17, Try.ntmps17
  go_wp2_with (go_at_call 16; refine HC.out.mono ?_; rintro e w1 ⟨rfl, hb1⟩)
  go_loopw [8, 9, 24] (fun v by_ i wr => ∃ (k : Nat), k ≤ m.length ∧ i = .int .i64 k ∧ by_ = .int .i64 (dV (m.take k)) ∧ OwnS wr w.heap.size v (invertFrom text 0 (m.take k)) ∧ Below w.heap.size w wr) (fun _ _ i _ => m.length - (intOf i).toNat)
  case atStart => exact ⟨0, Nat.zero_le _, rfl, rfl, Own.nil_, hb1⟩
  case round =>
    obtain ⟨k, hk, rfl, rfl, hown, hb⟩ := hrel
    by_cases hlt : k < m.length
    · obtain ⟨x, hx⟩ := get_some hlt
      obtain ⟨b, off, hA, hbl, h1, h2, h3⟩ := Spl.at_ (HR.out.below hb (Nat.le_refl _)) hx
      obtain ⟨s1, s2, s3, s4, s5, s6, s7, s8, s9⟩ := invert_step HF.out HS.out hm hx
      have hsn := take_snoc hx
      have hlen : (invertFrom text 0 (m.take k)).length ≤ 30 := by rw [invert_len, List.length_take]; omega
      have HT := Lib.hid hsn
      have HL := Lib.hid hlen
      have HO := Lib.hid hown
      have HB := Lib.hid hb
      have hbs := hb.size
      have HS1 := Lib.hid s1
      subst hA
      clear hx hown hsn hlen hb hb1 s1
      generalize hd : dV (m.take k) = d at *
      generalize hd2 : dV (m.take (k + 1)) = d2 at *
      have HD := Lib.hid hd
      have HD2 := Lib.hid hd2
      clear hd hd2
      go_wp2
      have hb1 : (invertFrom text 0 (m.take k)).length + 1 ≤ maxLen := by have := HL.out; unfold maxLen; omega
      have hb2 : ((invertFrom text 0 (m.take k)).length + 1) * 32 ≤ 140737488355328 := by have := HL.out; omega
      have HB1 := Lib.hid hb1
      have HB2 := Lib.hid hb2
      have hwp : IntKind.i64.wrap (x.frm + d + (x.text.size : Int)) = x.frm + d + (x.text.size : Int) := Go.IntWalk.i64_in _ (by omega)
      have hl9 : (0 : Int) ≤ x.frm := s6
      have hl8 : x.to ≤ (text.size : Int) := s8
      go_region_held3 (fun w' => w'.cell? ⟨wr.heap.size, 0, none⟩ = some (.int .i64 x.frm) ∧ w'.cell? ⟨wr.heap.size, 1, none⟩ = some (.int .i64 x.to) ∧ w'.cell? ⟨wr.heap.size, 2, none⟩ = some (.string x.text))
        (first
          | go_keep
          | (go_split_ands
             refine ⟨?_, ?_, ?_⟩
             · (rw [hgrow.cell_far _ (by simp; omega) (by intro e; have := (Own.lt HO.out _ e.symm).2; simp at this)]; assumption)
             · (rw [hgrow.cell_far _ (by simp; omega) (by intro e; have := (Own.lt HO.out _ e.symm).2; simp at this)]; assumption)
             · (rw [hgrow.cell_far _ (by simp; omega) (by intro e; have := (Own.lt HO.out _ e.symm).2; simp at this)]; assumption)))
        ((refine step_append_rec (cs := Spl.cells) (by rfl) _ _ _ (by rfl) 33 i33 _ 32 Try.underlying22 hi33 hz0 hz1 hz2 rfl (by omega) Spl.len Spl.one _ w.heap.size (wr.heap.size + 1) _ (invertFrom text 0 (m.take k)) ⟨x.frm + d, x.frm + d + (x.text.size : Int), text.extract x.frm.toNat x.to.toNat⟩ _ (0, 0) (by rfl) (by rfl) (by rfl) (by exact new_at (w := wr.alloc _) (by simp)) (Own.drew (Own.alloc (Own.alloc HO.out _) _)) HB1.out HB2.out (by simp; omega) (wr.heap.size + 1 + 1) (by simp) ?_; intro gg cap w1 hown1 hgrow hat hlt))
      clear hwp
      go_wp2
      go_roundw
      case rel =>
        refine ⟨k + 1, by omega, by go_num, by rw [HD2.out, HS1.out], ?_, below_grown (((HB.out.alloc hbs _).alloc (by simp; omega) _).drew) (Own.drew (Own.alloc (Own.alloc HO.out _) _)) (by simp; omega) hgrow⟩
        have e1 : invertFrom text 0 (m.take (k + 1)) = invertFrom text 0 (m.take k) ++ [⟨x.frm + d, x.frm + d + (x.text.size : Int), text.extract x.frm.toNat x.to.toNat⟩] := by
          rw [HT.out, invert_append, HD.out, Int.zero_add]
          rfl
        rw [e1]
        exact hown1
      case measure => simp [intOf]; omega
    · obtain rfl : k = m.length := by omega
      rw [List.take_length] at hown
      obtain ⟨A', c', rfl, hrow⟩ := Own.row Spl.len hown
      rw [invert_len] 
      have HRow := Lib.hid hrow
      clear hrow hown
      go_wp2
      go_ret2
      refine ⟨⟨A', c', ?_, HRow.out⟩, hb⟩
      rw [show (invertV text m).length = m.length from invert_len _ _ _]
      rfl
end Go.Proofs.Ytfflfbnnohlipaa
