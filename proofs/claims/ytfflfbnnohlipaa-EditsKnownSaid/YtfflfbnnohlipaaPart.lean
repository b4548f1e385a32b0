/- emendref07.part. -/
import Derived.Test.YtfflfbnnohlipaaCuts
namespace Go.Proofs.Ytfflfbnnohlipaa
open Go.RowKit
set_option linter.unusedVariables false
set_option linter.unusedSimpArgs false

theorem empty_list (s : ByteArray) : (s.toList = []) ↔ s = ⟨#[]⟩ := by
  rw [ByteArray.toList_eq]
  constructor
  · intro h
    cases s with
    | mk d => simp at h; simp [h]
  · rintro rfl; rfl

set_option maxHeartbeats 1600000 in
theorem part_any (text : ByteArray) (p : Prt) (w : World) (ht : text.size ≤ 1000000) :
    Calls Try.prog 40 #[.string text, .agg #[.int .i64 p.frm, .int .i64 p.to, .string p.text, .bool p.new]] w fun e w' => RetPart text p e ∧ Below w.heap.size w w' := by
  have HB : ∀ o, Below w.heap.size w (w.alloc o) := fun o => (Below.refl _ _).alloc (Nat.le_refl _) o
  have HBB := Lib.hid HB
  clear HB
  by_cases hn : p.new = true
  · have h1 := ret_part_text (text := text) (p := p) (.inl hn)
    have H1 := Lib.hid h1
    clear h1
    go_enter Try.func40, Try.ntmps40
    go_wp2
    go_ret2
    exact ⟨H1.out, HBB.out _⟩
  · have hn2 : p.new = false := by simpa using hn
    by_cases hx : p.text = ⟨#[]⟩
    · have hc : ¬ (p.new = true ∨ p.text ≠ ⟨#[]⟩) := by rintro (h | h); exact hn h; exact h hx
      have e1 : p.text.toList = [] := (empty_list _).2 hx
      have e2 : p.text.toList.isEmpty = true := by rw [e1]; rfl
      have hxf := fun h => ret_part_bad (text := text) hc h
      have hxc := fun h => ret_part_cut (text := text) hc h
      have HXF := Lib.hid hxf
      have HXC := Lib.hid hxc
      clear hxf hxc hc hn hx
      by_cases c1 : p.frm < 0
      · go_enter Try.func40, Try.ntmps40
        go_wp2
        go_ret2
        exact ⟨HXF.out (.inl c1), HBB.out _⟩
      · by_cases c2 : p.to < p.frm
        · go_enter Try.func40, Try.ntmps40
          go_wp2
          go_ret2
          exact ⟨HXF.out (.inr (.inl c2)), HBB.out _⟩
        · by_cases c3 : (text.size : Int) < p.to
          · go_enter Try.func40, Try.ntmps40
            go_wp2
            go_ret2
            exact ⟨HXF.out (.inr (.inr c3)), HBB.out _⟩
          · go_enter Try.func40, Try.ntmps40
            go_wp2
            go_ret2
            exact ⟨HXC.out (by omega), HBB.out _⟩
    · have hc : (p.new = true ∨ p.text ≠ ⟨#[]⟩) := .inr hx
      have e1 : ¬ p.text.toList = [] := fun h => hx ((empty_list _).1 h)
      have e2 : p.text.toList.isEmpty = false := by simpa using e1
      have h1 := ret_part_text (text := text) (p := p) hc
      have H1 := Lib.hid h1
      clear h1 hc hx hn
      go_enter Try.func40, Try.ntmps40
      go_wp2
      go_ret2
      exact ⟨H1.out, HBB.out _⟩
end Go.Proofs.Ytfflfbnnohlipaa
