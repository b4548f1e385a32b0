/- emendlaw07.few: the first thirty splices, each text cut. -/
import Derived.Test.YtfflfbnnohlipaaBase
namespace Go.Proofs.Ytfflfbnnohlipaa
open Go.RowKit

def cut300 (x : Spl) : Spl := { x with text := x.text.extract 0 (if (300 : Int) < (x.text.size : Int) then (300 : Int) else (x.text.size : Int)).toNat }
def fewV (l : List Spl) : List Spl := (l.take 30).map cut300
theorem fewV_len (l : List Spl) : (fewV l).length ≤ 30 := by simp [fewV]; omega

/-- Each text is as long as Go's may be. -/
def Fit (l : List Spl) : Prop := ∀ x ∈ l, x.text.size ≤ 9223372036854775807

set_option maxHeartbeats 800000 in
set_option maxRecDepth 100000 in
theorem few_any (A : Option Addr) (c : Nat) (l : List Spl) (w : World) (hl : l.length ≤ 9223372036854775807) (hr : Row w w.heap.size A l) (hfit : Fit l) :
    Calls Try.prog 11 #[.slice A l.length c] w fun e w' => RetRow Spl.cells 3 (fewV l) e w' ∧ Below w.heap.size w w' := by
  obtain ⟨i33, hi33, hz0, hz1, hz2⟩ := info_parts Try.info33
  go_enter Try.func11, Try.ntmps11
  go_wp2_with fail
  go_loopw [3, 4] (fun v i wr => ∃ (k : Nat), k ≤ l.length ∧ k ≤ 30 ∧ i = .int .i64 k ∧ OwnS wr w.heap.size v ((l.take k).map cut300) ∧ Below w.heap.size w wr) (fun _ i _ => 30 - (intOf i).toNat)
  case atStart => exact ⟨0, Nat.zero_le _, by omega, rfl, Own.nil_, Below.refl _ _⟩
  case round =>
    obtain ⟨k, hk, hk30, rfl, hown, hb⟩ := hrel
    by_cases hgo : k < l.length ∧ k < 30
    · obtain ⟨hlt, hlt30⟩ := hgo
      obtain ⟨x, hx⟩ := get_some hlt
      obtain ⟨b, off, rfl, hbl, h1, h2, h3⟩ := Spl.at_ (hr.below hb (Nat.le_refl _)) hx
      have hxs := hfit x (List.mem_of_getElem? hx)
      have hsn := take_snoc hx
      have hlen : ((l.take k).map cut300).length ≤ 30 := by simp; omega
      have HL := Lib.hid hlen
      have HT := Lib.hid hsn
      have HFit := Lib.hid hfit
      have HO := Lib.hid hown
      have HR := Lib.hid hr
      have HB := Lib.hid hb
      have hbs := hb.size
      clear hx hfit hown hr hsn hlen hb
      go_wp2_with (at_builtin; go_must (refine wpList_append_one (cs := Spl.cells) rfl _ _ 22 rfl 33 i33 _ 32 Try.underlying22 hi33 hz0 hz1 hz2 rfl (by decide) Spl.len Spl.one _ w.heap.size _ _ _ (cut300 x) _ rfl rfl rfl (by simp) (Own.alloc HO.out _) (by unfold maxLen; have := HL.out; omega) (by have := HL.out; omega) (by simp; omega) ?_); intro v' w' hown' hg hat)
      go_roundw
      case rel =>
        refine ⟨k + 1, by omega, by omega, by go_num, ?_, below_grown (HB.out.alloc HB.out.size _) (Own.alloc HO.out _) (by simp; omega) hg⟩
        rw [HT.out, List.map_append]
        exact hown'
      case measure => simp [intOf]; omega
    · have hk2 : k = min l.length 30 := by omega
      have hall : (l.take k).map cut300 = fewV l := by rw [hk2, fewV]; congr 1; rw [Nat.min_comm, ← List.take_take]; simp
      rw [hall] at hown
      obtain ⟨A', c', rfl, hrow⟩ := Own.row Spl.len hown
      by_cases hlt : k < l.length
      · have hk3 : ¬ ((k : Int) < 30) := by omega
        clear hk2 hall
        go_wp2
        go_ret
        exact ⟨⟨A', c', rfl, hrow⟩, hb⟩
      · clear hk2 hall
        go_wp2
        go_ret
        exact ⟨⟨A', c', rfl, hrow⟩, hb⟩
end Go.Proofs.Ytfflfbnnohlipaa
