/- memo.without: a list of keys without one. -/
import Derived.Test.YtjghbcligjiaaaaTrans3
import Derived.Test.YtjghbcligjiaaaaLocks
import Derived.Shelf.SlicesE.DeleteFunc
import Derived.KernelRfl
namespace Go.Proofs.Ytjghbcligjiaaaa
open Go.RowKit Go.Maps Go.Sort
set_option linter.unusedVariables false
set_option linter.unusedSimpArgs false

def Try.delRen : Go.Shelf.Ren := ⟨fun | 6 => 64 | 10 => 56 | n => n, fun | 22 => 30 | 23 => 9 | 25 => 119 | n => n, fun n => n⟩
theorem Try.laysDel : Go.Proofs.SlLaysH.n10 Try.prog Try.delRen := {
  mixed := by kernel_rfl
  f6 := ⟨Try.f64.name, by decide +kernel, Try.func64.trans (congrArg some (by kernel_rfl))⟩
  f10 := ⟨Try.f56.name, by decide +kernel, Try.func56.trans (congrArg some (by kernel_rfl))⟩
  t0 := Try.underlying0
  a0 := Try.isAgg0
  z0 := Try.sizeOf0
  v0 := Try.zeroValue0
  t3 := Try.underlying3
  a3 := Try.isAgg3
  z3 := Try.sizeOf3
  v3 := Try.zeroValue3
  t4 := Try.underlying4
  a4 := Try.isAgg4
  z4 := Try.sizeOf4
  v4 := Try.zeroValue4
  t22 := Try.underlying30
  a22 := Try.isAgg30
  z22 := Try.sizeOf30
  v22 := Try.zeroValue30
  a23 := Try.isAgg9
  z23 := Try.sizeOf9
  t25 := Try.underlying119
  a25 := Try.isAgg119
  z25 := Try.sizeOf119
  v25 := Try.zeroValue119 }

theorem gives57 (key x : ByteArray) (B : Nat) (W : World) (hc : W.cell? ⟨B, 0, none⟩ = some (.string key)) :
    Go.Proofs.FnGives Try.prog 57 #[.pointer (some ⟨B, 0, none⟩)] #[.string x] (.bool (decide (x = key))) W := by
  show Calls Try.prog 57 #[.string x, .pointer (some ⟨B, 0, none⟩)] W _
  have e : decide (x = key) = (x.toList == key.toList) := by
    rw [Bool.eq_iff_iff, decide_eq_true_eq, beq_iff_eq]
    refine ⟨fun h => by rw [h], fun h => ?_⟩
    rw [ByteArray.toList_eq, ByteArray.toList_eq] at h
    exact ByteArray.ext (Array.toList_inj.1 h)
  rw [e]
  clear e
  go_enter Try.func57, Try.ntmps57
  go_wp2
  all_goals (go_ret; exact ⟨by simp_all, 0, rfl⟩)
theorem pred57 (key : ByteArray) (B : Nat) (w : World) (hB : B < w.heap.size) (hcell : w.cell? ⟨B, 0, none⟩ = some (.string key)) :
    Go.Proofs.PredAt Try.prog 57 #[.pointer (some ⟨B, 0, none⟩)] Value.string (fun x => decide (x = key)) w :=
  fun W x hb => gives57 key x B W ((hb.cell (p := ⟨B, 0, none⟩) hB).trans hcell)
theorem over57 (key : ByteArray) (B blk off size : Nat) (w : World) (hB : B < w.heap.size) (hne : B ≠ blk) (hcell : w.cell? ⟨B, 0, none⟩ = some (.string key)) :
    Go.Proofs.PredOver Try.prog 57 #[.pointer (some ⟨B, 0, none⟩)] Value.string (fun x => decide (x = key)) blk off size w :=
  fun n os dk x _ => gives57 key x B _ (by
    unfold sortWorld
    rw [cell?_grow _ _ _ (by show B < (putRow _ _ _ _ _).heap.size; rw [size_putRow]; exact hB), cell?_putRow_other _ _ blk off _ _ (Or.inl hne)]
    exact hcell)
section
variable {α : Type} [Inhabited α] {enc : α → Value} {e : TypeId} {w : World}
theorem put_heap {g off : Nat} {d : Array α} {cur : Array Value} (hg : w.heap[g]? = some (.cells cur e (0, 0))) : (putRow enc w g off d).heap[g]? = some (.cells (putCells enc off d cur) e (0, 0)) := by
  unfold putRow mapBlock
  simp only [Array.getElem?_modify, if_true, hg, Option.map_some, onCells]
theorem put_other {g off b : Nat} {d : Array α} (h : b ≠ g) : (putRow enc w g off d).heap[b]? = w.heap[b]? := by
  unfold putRow mapBlock
  simp only [Array.getElem?_modify]
  rw [if_neg (fun e => h e.symm)]
theorem put_cells (off : Nat) (d : Array α) (cur : Array Value) (m : Nat) (hm : m ≤ d.size) (hc : off + d.size ≤ cur.size) : ((putCells enc off d cur).toList.drop off).take m = (d.toList.take m).map enc := by
  apply List.ext_getElem?
  intro j
  rw [List.getElem?_take, List.getElem?_map, List.getElem?_take]
  by_cases hj : j < m
  · rw [if_pos hj, if_pos hj, List.getElem?_drop]
    unfold putCells
    have h1 : off + j < cur.size := by omega
    have h2 : j < d.size := by omega
    simp only [Array.getElem?_toList, Array.getElem?_mapIdx, Array.getElem?_eq_getElem h1, Array.getElem?_eq_getElem h2, Option.map_some]
    rw [if_pos ⟨by omega, by omega⟩, show off + j - off = j by omega, getElem!_pos d j h2]
  · rw [if_neg hj, if_neg hj]; rfl
theorem OffRow.put {g off n cap : Nat} {l : List Value} (h : OffRow e w (.slice (some ⟨g, off, none⟩) n cap) l) (d : Array α) (hd : d.size = n) (m : Nat) (hm : m ≤ n) :
    OffRow e (putRow enc w g off d) (.slice (some ⟨g, off, none⟩) m cap) ((d.toList.take m).map enc) := by
  rcases h with ⟨h, _⟩ | ⟨g', off', cap', cur, hv, hg, h1, h2, h3, h4⟩
  · cases h
  · simp only [Value.slice.injEq, Option.some.injEq, Addr.mk.injEq] at hv
    obtain ⟨⟨rfl, rfl, _⟩, rfl, rfl⟩ := hv
    have hlen : ((d.toList.take m).map enc).length = m := by rw [List.length_map, List.length_take, Array.length_toList]; omega
    refine .inr ⟨g, off, cap, _, by rw [hlen], put_heap hg, by rw [hlen]; omega, h2, ?_, ?_⟩
    · unfold putCells; simpa using h3
    · rw [hlen]; exact put_cells off d cur m (by omega) (by omega)
end
theorem ahead_drewN (w : World) (q : Nat) : Sort.ahead w q = w.drewN q := rfl
theorem without_any (L : List ByteArray) (hL : L ≠ []) (key : ByteArray) (v : Value) (w : World) (h : OffRow 9 w v (L.map Value.string)) :
    Calls Try.prog 48 #[v, .string key] w fun e w' => ∃ v', e = .returned v' ∧ OffRow 9 w' v' ((L.filter (fun s => !decide (s = key))).map Value.string) ∧ v'.ownBlock = v.ownBlock ∧ w.grownBy w' v.ownBlock := by
  have hne : L.map Value.string ≠ [] := by simpa using hL
  obtain ⟨g, off, cap, rfl, hc, hlt, hcell, hfr⟩ := h.form hne
  rw [List.length_map] at hc h ⊢
  have hmax : L.length ≤ maxLen := by
    obtain ⟨_, _, _, hm⟩ := h.len
    simpa using hm
  have eg : ∀ args w, (callFunc 57 args).run Try.prog w = .ok (.enter 57 args) w := enters_of Try.func57 (by decide +kernel) rfl
  have hH : Holds Value.string (w.alloc (.cells #[.string key] 9)) g off L.toArray := fun j hj => by
    have hj' : j < L.length := by simpa using hj
    refine ⟨Lib.cell?_alloc_some _ (hcell j _ ?_), by rw [World.frozen?_alloc_old _ _ _ (by show g ≠ w.heap.size; omega)]; exact hfr _⟩
    rw [List.getElem?_map, List.getElem?_eq_getElem hj', getElem!_pos L.toArray j hj]
    rfl
  have hcon := Go.Proofs.AnyE.slices_DeleteFunc Try.laysDel Value.string (fun _ => rfl) (fun x => decide (x = key)) 57 #[.pointer (some ⟨w.heap.size, 0, none⟩)] eg ByteArray.empty Try.zeroValue9 g off cap L.toArray (w.alloc (.cells #[.string key] 9))
    (pred57 key w.heap.size _ (by simp) (by simp)) (over57 key w.heap.size g off _ _ (by simp) (by omega) (by simp)) hH (by unfold maxLen at hmax; simpa using hmax) (by simpa using hc)
  change Calls Try.prog 56 _ _ _ at hcon
  simp only [List.size_toArray] at hcon
  obtain ⟨r, hr⟩ : ∃ r, L.filter (fun s => !decide (s = key)) = r := ⟨_, rfl⟩
  rw [hr] at hcon ⊢
  have hrl : r.length ≤ L.length := by rw [← hr]; exact List.length_filter_le _ _
  have HO := Lib.hid (h.keep (w' := w.alloc (.cells #[.string key] 9)) (fun k hk => Go.heap_alloc_old w _ (h.lt k hk)))
  have HRL := Lib.hid hrl
  have HLT := Lib.hid hlt
  have HC := Lib.hid hcon
  clear hH hcell hfr hc hmax hne h hr hL hrl hlt hcon
  go_enter Try.func48, Try.ntmps48
  go_wp2_with (go_at_call 56; refine HC.out.mono ?_; rintro e w' ⟨rfl, q, rfl⟩)
  go_ret
  have ho := (HO.out.keep (w' := Sort.ahead (w.alloc (.cells #[.string key] 9)) q) (fun k hk => rfl)).put (enc := Value.string) (r ++ List.replicate (L.length - r.length) ByteArray.empty).toArray (by simp; have := HRL.out; omega) r.length HRL.out
  refine ⟨_, rfl, ?_, rfl, ⟨rfl, rfl, rfl, by simp [ahead], fun k hk hne => ?_⟩⟩
  · simpa using ho
  · rw [put_other (fun e => hne (by rw [e]; rfl))]
    exact Go.heap_alloc_old w _ hk
end Go.Proofs.Ytjghbcligjiaaaa
