/- A range over a function whose iterator hands over N elements, one behind the other, and whose body goes to its end each time. -/
import Derived.RangeFuncOwn
import Derived.RangeFuncCalls
import Derived.RangeFuncLeaves
import Derived.Test.YtfflfbnnohlipaaMem
namespace Go.Proofs.Ytfflfbnnohlipaa
open Go.RowKit

/-- J stays where new blocks are laid. -/
def Stays (J : Nat → World → Prop) : Prop := ∀ k W W', J k W → Below W.heap.size W W' → J k W'

/-- No block turns but those of M, and what is new. -/
def Kept (M : Nat → Prop) (W W' : World) : Prop := W.heap.size ≤ W'.heap.size ∧ ∀ b, b < W.heap.size → ¬ M b → W'.heap[b]? = W.heap[b]?

theorem Kept.trans {M : Nat → Prop} {A B C : World} (h : Kept M A B) (k : Kept M B C) : Kept M A C :=
  ⟨Nat.le_trans h.1 k.1, fun b hb hm => (k.2 b (Nat.lt_of_lt_of_le hb h.1) hm).trans (h.2 b hb hm)⟩
theorem Kept.mono {M M' : Nat → Prop} {A B : World} (h : Kept M A B) (hM : ∀ b, M b → M' b) : Kept M' A B := ⟨h.1, fun b hb hm => h.2 b hb fun x => hm (hM b x)⟩
theorem Kept.of_below {M : Nat → Prop} {A B : World} (h : Below A.heap.size A B) : Kept M A B := ⟨h.size, fun b hb _ => h.block b hb⟩
theorem Kept.refl (M : Nat → Prop) (A : World) : Kept M A A := ⟨Nat.le_refl _, fun _ _ _ => rfl⟩
theorem Kept.setCell (M : Nat → Prop) (A : World) (p : Addr) (v : Value) (h : M p.block) : Kept M A (A.setCell p v) :=
  ⟨by simp [World.setCell], fun b _ hm => Below.heap_setCell A p v b fun e => hm (e ▸ h)⟩
theorem Kept.putObj (M : Nat → Prop) (A : World) (r : Nat) (o : Obj) (h : M r) : Kept M A (A.putObj r o) :=
  ⟨by simp, fun b _ hm => World.putObj_heap_other fun e => hm (e ▸ h)⟩
theorem Kept.drew (M : Nat → Prop) (A : World) : Kept M A A.drew := ⟨Nat.le_refl _, fun _ _ _ => rfl⟩
theorem Kept.cell {M : Nat → Prop} {A B : World} (h : Kept M A B) {p : Addr} (hp : p.block < A.heap.size) (hm : ¬ M p.block) : B.cell? p = A.cell? p := World.cell?_of_block (h.2 _ hp hm)
theorem Kept.frozen {M : Nat → Prop} {A B : World} (h : Kept M A B) {p : Addr} (hp : p.block < A.heap.size) (hm : ¬ M p.block) : B.frozen? p = A.frozen? p := World.frozen?_of_block (h.2 _ hp hm)

theorem below_putObj {B : Nat} (A : World) (r : Nat) (o : Obj) (h : B ≤ r) : Below B A (A.putObj r o) :=
  ⟨rfl, rfl, rfl, by simp, fun k hk => World.putObj_heap_other (by omega)⟩

/-- The iterator's contract: N elements el 0, el 1 ..; KK: what it leans on, which each state of the caller's keeps; M: the blocks that a round may turn. -/
def Hands (P : Program) (gf : Nat) (lb : Array Value) (N : Nat) (el : Nat → Value) (KK : World → Prop) : Prop :=
  ∀ (l : Nat) (J : Nat → World → Prop) (M : Nat → Prop) (W : World), (∀ b, M b → b < W.heap.size) → Stays J → (∀ k W1, J k W1 → KK W1 ∧ W.heap.size ≤ W1.heap.size) →
    (∀ k W1, J k W1 → k < N → YieldAt Fence.wide 0 P l #[el k] W1 fun e W' => e = .returned (.bool true) ∧ J (k + 1) W' ∧ Kept M W1 W') → J 0 W →
    Calls P gf (#[.func (.yield l) #[] #[]] ++ lb) W fun e W' => (∃ v, e = .returned v) ∧ J N W'

variable {P : Program}

theorem wide_range {g : Operand} {p : Tmp} {assign body : Code} {Q : Exit → Act → World → Prop} {a : Act} {w : World} {gf : Nat} {lb : Array Value}
    (hg : a.eval g = .func (.func gf) #[] lb) (eg : ∀ args w, (callFunc gf args).run P w = .ok (.enter gf args) w)
    {N : Nat} {el : Nat → Value} {KK : World → Prop} (hseq : Hands P gf lb N el KK) (I : Nat → World → Prop) (Mc : Nat → Prop) (hMc : ∀ b, Mc b → b < w.heap.size)
    (hI : ∀ k W W', I k W → Below w.heap.size W W' → I k W') (hKK : ∀ k W, I k W → KK W) (h0 : I 0 w) (a₁ : Nat → Act)
    (hassign : ∀ (l k : Nat) (W : World) (K : Act → World → Prop), K (a₁ k) W →
      assign.wpIn (Fence.wide.inRound l) 0 P (Exit.then K (fun _ _ _ => False)) { tmps := a.tmps.setIfInBounds p (el k), defers := [] } W)
    (hbody : ∀ (l k : Nat) (W : World), I k W → k < N → body.wpIn (Fence.wide.inRound l) 0 P (fun e _ W' => e = .normal ∧ Kept Mc W W' ∧ I (k + 1) W') (a₁ k) W)
    (hdone : ∀ (D : Nat) (W : World), w.heap.size ≤ D → I N W → W.heap[D]? = some (.deferred (some [])) → Q .normal { a with defers := { target := .collected D, args := #[] } :: a.defers } W) :
    (Code.rangeFunc g #[p] assign body).wpIn Fence.wide 0 P Q a w := by
  refine wpIn_rangeFunc fun fn hfn => ?_
  generalize hrec : (fun (st : LoopState) => ({ state := st, pending := none, fn, tmps := a.tmps, params := #[p], assign, body, defers := w.heap.size } : Loop)) = rec
  have hrec' : ∀ st, ({ state := st, pending := none, fn, tmps := a.tmps, params := #[p], assign, body, defers := w.heap.size } : Loop) = rec st := fun st => by rw [← hrec]
  have hst : ∀ st, (rec st).state = st := fun st => by rw [← hrec]
  have htm : ∀ st, (rec st).tmps = a.tmps := fun st => by rw [← hrec]
  have hps : ∀ st, (rec st).params = #[p] := fun st => by rw [← hrec]
  have has : ∀ st, (rec st).assign = assign := fun st => by rw [← hrec]
  have hbo : ∀ st, (rec st).body = body := fun st => by rw [← hrec]
  have hfo : ∀ st, (rec st).fn = fn := fun st => by rw [← hrec]
  have hto : ∀ st st', ({ rec st with state := st' } : Loop) = rec st' := fun st st' => by rw [← hrec]
  have hto2 : ∀ st st', ({ rec st with state := st', pending := none } : Loop) = rec st' := fun st st' => by rw [← hrec]
  have hpe : ∀ st, (rec st).pending = none := fun st => by rw [← hrec]
  generalize hW1 : (w.alloc (.deferred (some []))).alloc (.loop (rec .ready)) = W1
  have hL1 : W1.heap[w.heap.size + 1]? = some (.loop (rec .ready)) := by
    rw [← hW1]
    have := World.alloc_heap_new (w.alloc (.deferred (some []))) (.loop (rec .ready))
    rwa [World.size_alloc] at this
  have hK1 : W1.heap[w.heap.size]? = some (.deferred (some [])) := by
    rw [← hW1]
    exact (Below.heap_alloc _ _ _ (by simp)).trans (World.alloc_heap_new w _)
  have hs1 : W1.heap.size = w.heap.size + 2 := by rw [← hW1]; simp
  have hI1 : I 0 W1 := hI 0 w W1 h0 (by rw [← hW1]; exact ((Below.refl _ _).alloc (Nat.le_refl _) _).alloc (by simp) _)
  let J : Nat → World → Prop := fun k W => I k W ∧ W.heap[w.heap.size + 1]? = some (.loop (rec .ready)) ∧ W.heap[w.heap.size]? = some (.deferred (some []))
  have hJs : Stays J := fun k W W' ⟨hi, hl, hk⟩ hb => by
    have hlt := (Array.getElem?_eq_some_iff.1 hl).1
    exact ⟨hI k W W' hi (hb.mono (by omega)), (hb.block _ hlt).trans hl, (hb.block _ (by omega)).trans hk⟩
  refine ⟨w.heap.size + 1, [{ target := .collected w.heap.size, args := #[] }], W1, { target := .fn (.func gf) lb, args := #[.func (.yield (w.heap.size + 1)) #[] #[]] }, W1, gf,
    #[.func (.yield (w.heap.size + 1)) #[] #[]] ++ lb, W1, ?_, ?_, fun _ _ => trivial, ?_, fun h => by simp [Fence.wide] at h, ?_⟩
  · have := run_enterLoop_outer (P := P) (w := w) fn a.tmps #[p] assign body
    rw [hrec', hW1] at this
    exact this
  · simp only [resolve, hg]
    simp [go_sem]
  · simp [invoke, go_sem, eg]
  · refine (callsIn_wide.2 (hseq (w.heap.size + 1) J (fun b => Mc b ∨ b = w.heap.size + 1) W1 ?_ hJs (fun k W h => ⟨hKK k W h.1, ?_⟩) ?_ (show J 0 W1 from ⟨hI1, hL1, hK1⟩))).mono ?_
    · rintro b (hb | rfl)
      · have := hMc b hb; omega
      · omega
    · have := (Array.getElem?_eq_some_iff.1 h.2.1).1
      omega
    · rintro k W ⟨hi, hl, hk⟩ hlt
      have hsz : w.heap.size + 1 < W.heap.size := (Array.getElem?_eq_some_iff.1 hl).1
      have hy := run_yield (P := P) (args := #[el k]) hl (by rw [hps]; rfl)
      rw [hfo, hps, htm, has, hbo] at hy
      have hz : Array.foldl (fun tmps (x : Nat × Value) => tmps.setIfInBounds x.1 x.2) a.tmps (#[p].zip #[el k]) = a.tmps.setIfInBounds p (el k) := by simp
      change _ = Result.ok (Next.round _ _ (Array.foldl (fun tmps (x : Nat × Value) => tmps.setIfInBounds x.1 x.2) a.tmps (#[p].zip #[el k])) _ _) _ at hy
      rw [hz] at hy
      refine ⟨fn, _, assign, body, hy, roundIn_of_wpIn hfn (hassign _ k W _ ?_)⟩
      refine ⟨_, run_beginRound hl (hst _), ?_⟩
      rw [hto]
      refine wpIn_mono (hbody _ k _ (hI _ _ _ hi (below_putObj _ _ _ (by omega))) hlt) ?_
      rintro e a3 W3 ⟨rfl, hko, hi3⟩
      have hl2 : (W.putObj (w.heap.size + 1) (.loop (rec .busy))).heap[w.heap.size + 1]? = some (.loop (rec .busy)) := World.putObj_heap_same hsz
      have hk2 : (W.putObj (w.heap.size + 1) (.loop (rec .busy))).heap[w.heap.size]? = some (.deferred (some [])) := (World.putObj_heap_other (by omega)).trans hk
      have hsz2 : (W.putObj (w.heap.size + 1) (.loop (rec .busy))).heap.size = W.heap.size := by simp
      have hl3 := (hko.2 (w.heap.size + 1) (by omega) (fun h => by have := hMc _ h; omega)).trans hl2
      have hk3 := (hko.2 w.heap.size (by omega) (fun h => by have := hMc _ h; omega)).trans hk2
      have hr := run_endRound (P := P) none hl3
      simp only [Option.isNone_none, if_true] at hr
      rw [hto2] at hr
      refine ⟨_, _, hr, rfl, ⟨hI _ _ _ hi3 (below_putObj _ _ _ (by omega)), World.putObj_heap_same (Array.getElem?_eq_some_iff.1 hl3).1, (World.putObj_heap_other (by omega)).trans hk3⟩, ?_⟩
      exact ((Kept.putObj (fun b => Mc b ∨ b = w.heap.size + 1) W _ _ (.inr rfl)).trans (hko.mono fun b h => .inl h)).trans (Kept.putObj _ _ _ _ (.inr rfl))
    · rintro e W2 ⟨⟨v, rfl⟩, hi, hl, hk⟩
      have hr := run_endLoop (P := P) hl (by rw [hst]; simp)
      rw [hpe] at hr
      exact ⟨none, _, hr, hdone _ _ (Nat.le_refl _) (hI _ _ _ hi (below_putObj _ _ _ (by omega))) ((World.putObj_heap_other (by omega)).trans hk)⟩

end Go.Proofs.Ytfflfbnnohlipaa
