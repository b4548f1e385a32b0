/- What a memo in memory answers to look-ups, and its cells. Generic. -/
import Derived.Test.YtjghbcligjiaaaaTrans3
namespace Go.Proofs.Ytjghbcligjiaaaa
open Go.RowKit Go.Maps Go.Sort
set_option linter.unusedVariables false
set_option linter.unusedSimpArgs false
theorem plainElem_string_inv {P : Program} {e : TypeId} (he : P.underlying e = some .string) {v : Value} {s : ByteArray} {ps : List MemPlace} (h : plainElem (H := Unit) P e v = some (.lit (litS s), ps)) : v = .string s := by
  unfold plainElem at h
  rw [he] at h
  split at h
  · cases ‹some TypeDesc.string = some TypeDesc.bool›
  · cases ‹some TypeDesc.string = some (TypeDesc.int _)›
  · rename_i t _
    by_cases hm : t.size ≤ maxLen
    · rw [if_pos hm] at h
      simp only [Option.some.injEq, Prod.mk.injEq, DataW.lit.injEq] at h
      have := litS_inj (s := t) (t := s) h.1
      rw [this]
    · rw [if_neg hm] at h; cases h
  · cases h
/-- What a type of values wants. -/
structure VT {τ : Type} (P : Program) (T : MT τ) (ok : τ → Prop) : Prop where
  back : ∀ v x ps, plainElem (H := Unit) P T.val v = some (T.rdv x, ps) → v = T.enc x
  zero : ∃ zd zp, plainElem (H := Unit) P T.val T.zero = some (zd, zp) ∧ ∀ v ps, plainElem (H := Unit) P T.val v = some (zd, ps) → v = T.zero
  zrun : ∀ w, (zeroValue T.val).run P w = .ok T.zero w
  fwd : ∀ x, ok x → plainElem (H := Unit) P T.val (T.enc x) = some (T.rdv x, [])
section
variable {τ : Type} {P : Program} {T : MT τ} {ok : τ → Prop} {w : World} {st : Int} {S : MS τ} {B : MB}
def valOf (T : MT τ) (o : Option τ) : Value := match o with | some x => T.enc x | none => T.zero
def ptrOf (o : Option Fl) : Value := match o with | some f => .pointer (some ⟨f.blk, 0, none⟩) | none => .pointer none
theorem look_vals (h : MemoAt P T w st S B) (V : VT P T ok) (K : Keyed P T.str) {vm : TypeId} (ht : P.underlying vm = some (.map T.str T.val)) {k : ByteArray} (hk : keyOf P T.str (.string k) = some (litS k)) :
    (Instr.lookup vm (.map (some B.bv)) (.string k) true).run P w = .ok (.tuple #[valOf T (getK S.kept k), .bool (getK S.kept k).isSome]) w := by
  obtain ⟨D, h1, h2⟩ := h.vals
  obtain ⟨zd, zp, hz, hzb⟩ := V.zero
  obtain ⟨v, ps, hr, hv⟩ := h1.look_ok K ht (V.zrun w) hz hk
  rw [hr, h2.has]
  rw [h2.at_] at hv
  cases hg : getK S.kept k with
  | none => rw [hg] at hv; rw [hzb v ps hv]; rfl
  | some x => rw [hg] at hv; rw [V.back v x ps hv]; rfl
theorem look_flts (h : MemoAt P T w st S B) (K : Keyed P T.str) {fm pt : TypeId} (ht : P.underlying fm = some (.map T.str pt)) (hz : (zeroValue pt).run P w = .ok (.pointer none) w) {k : ByteArray} (hk : keyOf P T.str (.string k) = some (litS k)) :
    (Instr.lookup fm (.map (some B.bf)) (.string k) true).run P w = .ok (.tuple #[ptrOf (getK S.making k), .bool (getK S.making k).isSome]) w := by
  obtain ⟨D, h1, h2⟩ := h.flts
  obtain ⟨v, ps, hr, hv⟩ := h1.look_ok K ht hz ptrElem_nil hk
  rw [hr, h2.has]
  rw [h2.at_] at hv
  cases hg : getK S.making k with
  | none => rw [hg] at hv; rw [ptrElem_inv_nil hv]; rfl
  | some f => rw [hg] at hv; rw [ptrElem_inv hv]; rfl
/-- A memo's cells. -/
structure Cells (w : World) (m : Nat) (st : Int) (most : Nat) (bv bf : Nat) (us bs : Value) : Prop where
  c0 : w.cell? ⟨m, 0, none⟩ = some (.int .i32 st)
  c1 : w.cell? ⟨m, 1, none⟩ = some (.int .u32 0)
  c2 : w.cell? ⟨m, 2, none⟩ = some (.int .i64 most)
  c3 : w.cell? ⟨m, 3, none⟩ = some (.map (some bv))
  c4 : w.cell? ⟨m, 4, none⟩ = some us
  c5 : w.cell? ⟨m, 5, none⟩ = some (.map (some bf))
  c6 : w.cell? ⟨m, 6, none⟩ = some bs
  fz : ∀ j, w.frozen? ⟨m, j, none⟩ = false
theorem cells_of {e : TypeId} (h : w.heap[B.m]? = some (.cells (memoCells st S B) e (0, 0))) : Cells w B.m st S.most B.bv B.bf B.us B.bs := by
  refine ⟨?_, ?_, ?_, ?_, ?_, ?_, ?_, fun j => ?_⟩
  iterate 7 (rw [cell_of_row w B.m _ _ e (0, 0) h]; rfl)
  unfold World.frozen?
  rw [h]; simp
structure FCells (w : World) (f : Fl) : Prop where
  c0 : w.cell? ⟨f.blk, 0, none⟩ = some (.int .i64 f.who)
  c1 : w.cell? ⟨f.blk, 1, none⟩ = some f.ws
  c2 : w.cell? ⟨f.blk, 2, none⟩ = some (.chan (some f.ch))
  fz : ∀ j, w.frozen? ⟨f.blk, j, none⟩ = false
theorem fcells_of {f : Fl} (h : FlAt T w f) : FCells w f := by
  refine ⟨?_, ?_, ?_, fun j => ?_⟩
  iterate 3 (rw [cell_of_row w f.blk _ _ T.fl (0, 0) h.obj]; rfl)
  unfold World.frozen?
  rw [h.obj]; simp
theorem set_heap {b i : Nat} {v : Value} {cur : Array Value} {e : TypeId} {fr : Nat × Nat} (h : w.heap[b]? = some (.cells cur e fr)) : (w.setCell ⟨b, i, none⟩ v).heap[b]? = some (.cells (cur.setIfInBounds i v) e fr) := by
  rw [setCell_eq]
  unfold mapBlock
  simp only [Array.getElem?_modify, if_true, h, Option.map_some, onCells]
theorem set_other {b i k : Nat} {v : Value} (h : k ≠ b) : (w.setCell ⟨b, i, none⟩ v).heap[k]? = w.heap[k]? := by
  rw [setCell_eq]
  unfold mapBlock
  simp only [Array.getElem?_modify]
  rw [if_neg (fun e => h e.symm)]
theorem set_size {b i : Nat} {v : Value} : (w.setCell ⟨b, i, none⟩ v).heap.size = w.heap.size := by
  rw [setCell_eq]; unfold mapBlock; simp
theorem set_only {b i : Nat} {v : Value} {F : List Nat} (h : b ∈ F) : Only F w (w.setCell ⟨b, i, none⟩ v) :=
  ⟨by rw [setCell_eq]; rfl, by rw [setCell_eq]; rfl, by rw [setCell_eq]; rfl, Nat.le_of_eq set_size.symm, fun k hk hf => set_other (fun e => hf (e ▸ h))⟩
theorem alloc_only {o : Obj} {F : List Nat} : Only F w (w.alloc o) := ⟨rfl, rfl, rfl, by simp, fun k hk hf => Go.heap_alloc_old w o hk⟩
theorem Only.keep {F : List Nat} {w' : World} (h : Only F w w') {b : Nat} (hb : b < w.heap.size) (hf : b ∉ F) : w'.heap[b]? = w.heap[b]? := h.block b hb hf
theorem turned_only {w' : World} {b : Nat} {F : List Nat} (h : w.mapTurned w' b) (hb : b ∈ F) : Only F w w' := Only.grown h.grown (fun k hk => by cases hk; exact hb)
end
end Go.Proofs.Ytjghbcligjiaaaa
