/- From a law's walk to its row: the arguments read as lists of records; what the call owes behind it. Generic over the program. -/
import Derived.Test.YtjghbcligjiaaaaMem
import Derived.ProofKit
import Derived.OpenShut
import Derived.Deep.Slices
namespace Go.Proofs.Ytjghbcligjiaaaa
open Go.ChangeShapes Go.WideShapes Go.ChangeAt Go.RowKit
set_option linter.unusedVariables false
set_option linter.unusedSimpArgs false

section
variable {H : Type} {enc : TypeId × Value → H} {P : Program} {W W' : World}

theorem trodAll_below (hl : laidOutB P = true) (hb : Below W.heap.size W W') : ∀ (ts : List TypeId) (vs : List Value) (ds : List (DataW H)) (ps : List MemPlace),
    (∀ t ∈ ts, P.readableRec t = true ∧ t < P.types.size) → DataW.TrodAll enc P W 0 (fun _ => true) true ts vs ds ps →
    DataW.TrodAll enc P W' 0 (fun b => decide (b < W.heap.size)) true ts vs ds ps := by
  intro ts
  induction ts with
  | nil =>
    intro vs ds ps _ h
    obtain ⟨rfl, rfl, rfl⟩ := trodAll_nil h
    exact trodAll_mk0
  | cons t ts ih =>
    intro vs ds ps hr h
    obtain ⟨v, vs', d, ds', p, q, rfl, rfl, rfl, h0, h1⟩ := trodAll_cons h
    obtain ⟨hr0, ht0⟩ := hr t (List.mem_cons_self ..)
    have hlt : ∀ x ∈ p, x.block < W.heap.size := by
      obtain ⟨m, hm⟩ := h0
      exact DataW.trod_lt m _ _ _ hm
    exact trodAll_cons_mk (Below.trod hl hr0 ht0 h0 hb hlt) (ih _ _ _ (fun t' ht' => hr t' (List.mem_cons_of_mem _ ht')) h1)

/-- What a law's call owes, out of its walk. -/
theorem law_post {f : Func} {s : ChangeSpec} {k : FuncId} {args : Array Value} {ds gs : List (DataW H)} {before : List MemPlace} {bt : TypeId} (hl : laidOutB P = true)
    (hread : f.params.toList.all (fun t => P.readableRec t && decide (t < P.types.size)) = true) (hres : f.resultTypes = #[bt]) (hbt : P.underlying bt = some .bool) (hvars : s.vars = [])
    (hs : s.fn H (ds ++ gs) = { results := [.lit (.bool true)], args := ds }) (hW : DataW.Whole enc P f.params.toList s.vars false W args.toList ds gs before)
    (hc : Calls P k args W fun e W' => e = .returned (.bool true) ∧ Below W.heap.size W W') :
    Calls P k args W fun e W' => ∃ v, e = .returned v ∧ s.post enc P f false true false false W args v W' := by
  refine hc.mono fun e W' ⟨he, hb⟩ => ?_
  subst he
  obtain ⟨p, q, hA, hV, rfl, hfz, hnd⟩ := id hW
  have hA' := trodAll_below hl hb _ _ _ _ (fun t ht => by have := List.all_eq_true.1 hread t ht; simpa using this) hA
  rw [hvars] at hV
  obtain ⟨hgs, hq⟩ := trodVars_none hV
  refine ⟨_, rfl, ds, gs, _, [], p, [], hW, ?_, ?_, ?_, hb.frame _, fun h => by cases h⟩
  · rw [hs, hres]
    exact trodAll_mk1 (shut_bool hbt _)
  · rw [hs]; exact hA'
  · rw [hs, hvars]; rfl

/-- A slice of records, read. -/
theorem read_slice {α : Type} [Inhabited α] {cells : α → List Value} {sz : Nat} {good : α → Prop} {t e : TypeId} {base : Nat} {spare : Nat → Bool} {held : Bool} {v : Value} {d : DataW H} {ps : List MemPlace}
    (ht : P.underlying t = some (.slice e)) (hC : P.cellsOf e = sz) (hsz : 0 < sz)
    (helem : ∀ n cs y, DataW.trod enc P W base spare held n e cs = some y → ∃ x, cs = cells x ∧ good x)
    {a0 : Option Addr} {len0 cap0 : Nat} (hv : v = .slice a0 len0 cap0) (h : DataW.Trod enc P W base spare held t v d ps) :
    ∃ l : List α, len0 = l.length ∧ RowOf cells sz W W.heap.size a0 l ∧ (∀ x ∈ l, good x) ∧ len0 ≤ maxLen := by
  subst hv
  obtain ⟨fuel, hf⟩ := h
  rcases Go.Deep.open_slice ht hf with ⟨hcs, _⟩ | ⟨a, len, cap, m, n, D, Pl, hcs, _, hl, hm, hmm, _, hi⟩
  · simp [Value.cells] at hcs
    obtain ⟨rfl, rfl, rfl⟩ := hcs
    exact ⟨[], rfl, RowOf.nil_, by simp, by simp⟩
  · simp [Value.cells] at hcs
    obtain ⟨rfl, rfl, rfl⟩ := hcs
    have hlm : len0 ≤ m := by rw [hmm]; split <;> omega
    have hx : ∀ i, i < len0 → ∃ x, (∀ j u, (cells x)[j]? = some u → W.cell? (a.add (i * sz + j)) = some u) ∧ good x ∧ (cells x).length = sz := fun i hlt => by
      obtain ⟨cs', hc, ht'⟩ := hi i (by omega)
      obtain ⟨x, rfl, hg⟩ := helem _ _ _ ht'
      obtain ⟨_, hcl, hat⟩ := World.cells?_some hc
      refine ⟨x, fun j u hu => ?_, hg, hcl.trans hC⟩
      have hj : j < (cells x).length := by
        rcases Nat.lt_or_ge j (cells x).length with h | h
        · exact h
        · rw [List.getElem?_eq_none h] at hu; cases hu
      have := hat j (by omega)
      rw [Go.Deep.add_add, hC] at this
      rw [this, hu]
    obtain ⟨X, hX⟩ := Go.Deep.choose_lt hx
    refine ⟨(List.range len0).map X, by simp, ?_, ?_, by omega⟩
    · intro hpos
      simp at hpos
      have h0 := (hX 0 hpos).1
      have hl0 := (hX 0 hpos).2.2
      have hsome : ∃ u, W.cell? a = some u := by
        refine ⟨(cells (X 0))[0]'(by omega), ?_⟩
        have := h0 0 _ (List.getElem?_eq_getElem (by omega))
        simpa [Addr.add] using this
      obtain ⟨u, hu⟩ := hsome
      obtain ⟨b, off, spot⟩ := a
      have hsp : spot = none := World.cell?_spot hu
      subst hsp
      refine ⟨b, off, rfl, World.block_lt_of_cell? _ _ hu, fun i x hx j u hu => ?_⟩
      have hil : i < len0 := by
        rcases Nat.lt_or_ge i len0 with h | h
        · exact h
        · rw [List.getElem?_eq_none (by simpa using h)] at hx; cases hx
      simp [List.getElem?_map, List.getElem?_range hil] at hx
      subst hx
      have := (hX i hil).1 j u hu
      rw [Addr.add_lit] at this
      rw [Nat.add_assoc]
      exact this
    · intro x hx
      simp only [List.mem_map, List.mem_range] at hx
      obtain ⟨i, hi, rfl⟩ := hx
      exact (hX i hi).2.1
end

end Go.Proofs.Ytjghbcligjiaaaa
