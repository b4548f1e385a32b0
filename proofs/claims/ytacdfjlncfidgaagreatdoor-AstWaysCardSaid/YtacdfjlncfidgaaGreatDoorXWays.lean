/- What this law leans on beside the rest. -/
import Derived.WalkKit
import Derived.Outline
import Derived.Lib.Hide
import Derived.WalkLawsBesides
import Derived.WalkSpells
import Derived.Deep.AppendLies
import Derived.Deep.Draws
import Derived.Laws.OwnMore
import Derived.Maps.AppendAt
import Derived.OwnWalk
import Derived.Deep.QuietTactic
import Derived.BigQuiet
import Derived.RangeFuncOwn
import Derived.RangeFuncCalls
import Derived.RangeFuncLeaves
import Derived.TacticsIn
import Derived.OwnWalkIn
import Derived.LoopIn
import Derived.Test.YtacdfjlncfidgaaGreatDoorQA
import Derived.Test.YtacdfjlncfidgaaGreatDoorRA
import Derived.Test.YtacdfjlncfidgaaGreatDoorQB
import Derived.Test.YtacdfjlncfidgaaGreatDoorTB
import Derived.Test.YtacdfjlncfidgaaGreatDoorRB
import Derived.Test.YtacdfjlncfidgaaGreatDoorTD
import Derived.Test.YtacdfjlncfidgaaGreatDoorRE
import Derived.Test.YtacdfjlncfidgaaGreatDoorTO
import Derived.Test.YtacdfjlncfidgaaGreatDoorTE
import Derived.Test.YtacdfjlncfidgaaGreatDoorRQ
import Derived.Test.YtacdfjlncfidgaaGreatDoorRF
namespace Go.Proofs.YtacdfjlncfidgaaGreatDoor
open Go.RowKit
set_option linter.unusedVariables false
set_option linter.unusedSimpArgs false
set_option maxRecDepth 100000
set_option maxHeartbeats 6400000
section
variable {P : Program} {α : Type} {cs : α → List Value} {sz : Nat}
theorem below_grown {B : Nat} {w0 W w' : World} {e : TypeId} {v : Value} {l : List α} (hb : Below B w0 W) (hown : Own cs sz e W B v l) (hB : B ≤ W.heap.size) (hg : W.grownBy w' v.ownBlock) : Below B w0 w' :=
 hb.grown hg hB fun k hk => (hown.lt k hk).1
end
theorem get_some {α : Type} {l : List α} {k : Nat} (h : k < l.length) : ∃ x, l[k]? = some x := ⟨l[k], List.getElem?_eq_getElem h⟩
mutual
def eachV : Tree → List Tree
 | .mk k f t a n l => if k = 0 then [] else .mk k f t a n l :: eachL l
def eachL : List Tree → List Tree
 | [] => []
 | t :: l => eachV t ++ eachL l
end
mutual
def pathV (from_ to_ : Int) : Tree → List Tree
 | .mk k f t a n l => if k = 0 ∨ f > from_ ∨ from_ > to_ ∨ to_ > t then [] else .mk k f t a n l :: pathL from_ to_ l
def pathL (from_ to_ : Int) : List Tree → List Tree
 | [] => []
 | t :: l => if (pathV from_ to_ t).isEmpty then pathL from_ to_ l else pathV from_ to_ t
end
def tightL (to_ : Int) : Int → List Tree → Bool
 | _, [] => true
 | last, k :: l => if k.kind = 0 then tightL to_ last l else decide (last ≤ k.fr) && decide (k.en ≤ to_) && tightL to_ (max last k.en) l
def tightV (size : Int) (n : Tree) : Bool := decide (0 ≤ n.fr) && decide (n.fr ≤ n.at_) && decide (n.at_ ≤ n.en) && decide (n.en ≤ size) && tightL n.en n.fr n.kids
def placedV (size : Int) (t : Tree) : Bool := (eachV t).all (tightV size)
def hasV (fr to_ : Int) (t : Tree) : Bool := decide (t.kind ≠ 0) && decide (t.fr ≤ fr) && decide (to_ ≤ t.en)
theorem path_nil (fr to_ : Int) (t : Tree) : pathV fr to_ t = [] ↔ (t.kind = 0 ∨ fr < t.fr ∨ t.en < to_ ∨ to_ < fr) := by
 obtain ⟨k, f, tt, a, n, l⟩ := t
 unfold pathV
 show _ ↔ (k = 0 ∨ fr < f ∨ tt < to_ ∨ to_ < fr)
 by_cases h : k = 0 ∨ f > fr ∨ fr > to_ ∨ to_ > tt
 · rw [if_pos h]; constructor
   · intro _; omega
   · intro _; rfl
 · rw [if_neg h]; constructor
   · intro h'; cases h'
   · intro h'; exact absurd (by omega) h
theorem path_none (fr to_ : Int) (hle : fr ≤ to_) (t : Tree) : (pathV fr to_ t).isEmpty = !hasV fr to_ t := by
 have h := path_nil fr to_ t
 unfold hasV
 cases hp : pathV fr to_ t with
 | nil =>
  have := h.1 hp
  show true = _
  symm
  simp only [Bool.not_eq_true', Bool.and_eq_false_iff, decide_eq_false_iff_not]
  omega
 | cons x l =>
  have : ¬ (t.kind = 0 ∨ fr < t.fr ∨ t.en < to_ ∨ to_ < fr) := fun hh => by rw [h.2 hh] at hp; cases hp
  show false = _
  symm
  simp only [Bool.not_eq_false', Bool.and_eq_true, decide_eq_true_eq]
  omega
theorem pathL_find (fr to_ : Int) (hle : fr ≤ to_) : ∀ l : List Tree, pathL fr to_ l = match l.find? (hasV fr to_) with | none => [] | some y => pathV fr to_ y
 | [] => by simp [pathL]
 | t :: l => by
  unfold pathL
  rw [path_none fr to_ hle t, List.find?_cons]
  cases hasV fr to_ t with
  | true => simp
  | false => simp [pathL_find fr to_ hle l]
def firstV (fr to_ : Int) (t : Tree) : Option Tree := t.kids.find? (hasV fr to_)
def withV (fr to_ : Int) (t : Tree) : Nat := t.kids.countP (hasV fr to_)
theorem with_zero (fr to_ : Int) (t : Tree) : withV fr to_ t = 0 ↔ firstV fr to_ t = none := by
 unfold withV firstV
 rw [List.countP_eq_zero, List.find?_eq_none]
def chainV (fr to_ : Int) : List Tree → Prop
 | [] => True
 | [x] => hasV fr to_ x = true ∧ firstV fr to_ x = none
 | x :: y :: r => hasV fr to_ x = true ∧ firstV fr to_ x = some y ∧ chainV fr to_ (y :: r)
theorem path_chain (fr to_ : Int) (hle : fr ≤ to_) : ∀ t : Tree, chainV fr to_ (pathV fr to_ t) := by
 refine tree_ind (fun k f t a n l ih => ?_)
 have hp := path_none fr to_ hle (.mk k f t a n l)
 have hL := pathL_find fr to_ hle l
 unfold pathV at hp ⊢
 by_cases h : k = 0 ∨ f > fr ∨ fr > to_ ∨ to_ > t
 · rw [if_pos h]; trivial
 · rw [if_neg h] at hp ⊢
   have hh : hasV fr to_ (.mk k f t a n l) = true := by
    have : (!hasV fr to_ (.mk k f t a n l)) = false := hp.symm
    simpa using this
   rw [hL]
   cases hf : l.find? (hasV fr to_) with
   | none => exact ⟨hh, hf⟩
   | some y =>
    have hy := List.mem_of_find?_eq_some hf
    have hyh : hasV fr to_ y = true := List.find?_some hf
    have hc := ih y hy
    have hpy := path_none fr to_ hle y
    rw [hyh] at hpy
    obtain ⟨k', f', t', a', n', l'⟩ := y
    show chainV fr to_ (.mk k f t a n l :: pathV fr to_ (.mk k' f' t' a' n' l'))
    have he : pathV fr to_ (.mk k' f' t' a' n' l') = .mk k' f' t' a' n' l' :: pathL fr to_ l' := by
     unfold pathV at hpy ⊢
     split
     · rename_i h'; rw [if_pos h'] at hpy; simp at hpy
     · rfl
    rw [he] at hc ⊢
    exact ⟨hh, hf, hc⟩
theorem chain_at (fr to_ : Int) : ∀ (l : List Tree), chainV fr to_ l → ∀ (i : Nat) (x : Tree), l[i]? = some x → hasV fr to_ x = true ∧ (i + 1 = l.length → firstV fr to_ x = none) ∧ (∀ y, l[i + 1]? = some y → firstV fr to_ x = some y)
 | [], _, i, x, h => by simp at h
 | [z], hc, i, x, h => by
  cases i with
  | zero => cases h; exact ⟨hc.1, fun _ => hc.2, fun y hy => by simp at hy⟩
  | succ i => simp at h
 | z :: y :: r, hc, i, x, h => by
  cases i with
  | zero => cases h; exact ⟨hc.1, fun he => by simp at he, fun y' hy => by cases hy; exact hc.2.1⟩
  | succ i =>
   have := chain_at fr to_ (y :: r) hc.2.2 i x (by simpa using h)
   exact ⟨this.1, fun he => this.2.1 (by simp at he ⊢; omega), fun y' hy => this.2.2 y' (by simpa using hy)⟩
theorem path_each (fr to_ : Int) : ∀ (t x : Tree), x ∈ pathV fr to_ t → x ∈ eachV t := by
 refine tree_ind (fun k f t a n l ih x hx => ?_)
 unfold pathV at hx
 unfold eachV
 split at hx
 · simp at hx
 · rename_i h
   rw [if_neg (fun h0 => h (.inl h0))]
   rcases List.mem_cons.1 hx with rfl | hx
   · exact List.mem_cons_self
   · refine List.mem_cons_of_mem _ ?_
     have : ∀ m : List Tree, (∀ y ∈ m, y ∈ l) → x ∈ pathL fr to_ m → x ∈ eachL m := by
      intro m
      induction m with
      | nil => intro _ h; simp [pathL] at h
      | cons y m ihm =>
       intro hm hxm
       unfold pathL at hxm
       unfold eachL
       split at hxm
       · exact List.mem_append.2 (.inr (ihm (fun z hz => hm z (List.mem_cons_of_mem _ hz)) hxm))
       · exact List.mem_append.2 (.inl (ih y (hm y (by simp)) x hxm))
     exact this l (fun _ h => h) hx
theorem tight_one (fr to_ tt : Int) (hlt : fr < to_) : ∀ (l : List Tree) (last : Int), tightL tt last l = true → l.countP (hasV fr to_) ≤ 1 ∧ (to_ ≤ last → l.countP (hasV fr to_) = 0)
 | [], _, _ => ⟨by simp, fun _ => rfl⟩
 | k :: l, last, h => by
  unfold tightL at h
  rw [List.countP_cons]
  by_cases h0 : k.kind = 0
  · rw [if_pos h0] at h
    have := tight_one fr to_ tt hlt l last h
    have e : hasV fr to_ k = false := by unfold hasV; simp [h0]
    rw [e]; simpa using this
  · rw [if_neg h0] at h
    simp only [Bool.and_eq_true, decide_eq_true_eq] at h
    have := tight_one fr to_ tt hlt l _ h.2
    cases e : hasV fr to_ k with
    | false => exact ⟨by simpa using this.1, fun hl => by simpa using this.2 (by omega)⟩
    | true =>
     unfold hasV at e
     simp only [Bool.and_eq_true, decide_eq_true_eq] at e
     have h0 := this.2 (by omega)
     rw [h0]
     exact ⟨by simp, fun hl => by omega⟩
theorem with_one (fr to_ size : Int) (hlt : fr < to_) (t x : Tree) (hp : placedV size t = true) (hx : x ∈ eachV t) : withV fr to_ x ≤ 1 := by
 have := List.all_eq_true.1 hp x hx
 unfold tightV at this
 simp only [Bool.and_eq_true] at this
 exact (tight_one fr to_ x.en hlt x.kids x.fr this.2).1
section
def Stays (J : Nat → World → Prop) : Prop := ∀ k W W', J k W → Below W.heap.size W W' → J k W'
theorem Kept.of_below {M : Nat → Prop} {A B : World} (h : Below A.heap.size A B) : Kept M A B := ⟨h.size, fun b hb _ => h.block b hb⟩
theorem Kept.putObj (M : Nat → Prop) (A : World) (r : Nat) (o : Obj) (h : M r) : Kept M A (A.putObj r o) :=
 ⟨by simp, fun b _ hm => World.putObj_heap_other fun e => hm (e ▸ h)⟩
theorem below_putObj {B : Nat} (A : World) (r : Nat) (o : Obj) (h : B ≤ r) : Below B A (A.putObj r o) :=
 ⟨rfl, rfl, rfl, by simp, fun k hk => World.putObj_heap_other (by omega)⟩
def StaysX (J : World → Prop) : Prop := ∀ W W', J W → Below W.heap.size W W' → J W'
def Hands2 (P : Program) (gf : Nat) (lb : Array Value) (N : Nat) (el : Nat → Value) (KK : World → Prop) : Prop :=
 ∀ (l : Nat) (J : Nat → World → Prop) (Jx : World → Prop) (M : Nat → Prop) (W : World), (∀ b, M b → b < W.heap.size) → Stays J → StaysX Jx → (∀ k W1, J k W1 → KK W1 ∧ W.heap.size ≤ W1.heap.size) →
  (∀ k W1, J k W1 → k < N → YieldAt Fence.wide 0 P l #[el k] W1 fun e W' => (e = .returned (.bool true) ∧ J (k + 1) W' ∧ Kept M W1 W') ∨ (e = .returned (.bool false) ∧ Jx W')) → J 0 W →
  Calls P gf (#[.func (.yield l) #[] #[]] ++ lb) W fun e W' => (∃ v, e = .returned v) ∧ (J N W' ∨ Jx W')
def RoundPost (Mc : Nat → Prop) (I : Nat → World → Prop) (Ix : Code → World → Prop) (k : Nat) (W : World) : Exit → Act → World → Prop := fun e _ W' => Kept Mc W W' ∧ match e with
 | .normal => I (k + 1) W'
 | .ret => Ix .ret W'
 | .exit id => Ix (.exit id) W'
 | _ => False
variable {P : Program}
theorem wide_range3 {g : Operand} {p : Tmp} {assign body : Code} {Q : Exit → Act → World → Prop} {a : Act} {w : World} {gf : Nat} {lb : Array Value}
  (hg : a.eval g = .func (.func gf) #[] lb) (eg : ∀ args w, (callFunc gf args).run P w = .ok (.enter gf args) w)
  {N : Nat} {el : Nat → Value} {KK : World → Prop} (hseq : Hands2 P gf lb N el KK) (I : Nat → World → Prop) (Ix : Code → World → Prop) (Mc : Nat → Prop) (hMc : ∀ b, Mc b → b < w.heap.size)
  (hI : ∀ k W W', I k W → Below w.heap.size W W' → I k W') (hIx : ∀ c W W', Ix c W → Below w.heap.size W W' → Ix c W') (hKK : ∀ k W, I k W → KK W) (h0 : I 0 w) (a₁ : Nat → Nat → Act) (ob : Nat → Obj)
  (hassign : ∀ (l k : Nat) (W : World) (K : Act → World → Prop), K (a₁ k W.heap.size) (W.alloc (ob k)) →
   assign.wpIn (Fence.wide.inRound l) 0 P (Exit.then K (fun _ _ _ => False)) { tmps := a.tmps.setIfInBounds p (el k), defers := [] } W)
  (hbody : ∀ (l k b : Nat) (W : World), I k W → k < N → W.heap[b]? = some (ob k) → w.heap.size ≤ b → body.wpIn (Fence.wide.inRound l) 0 P (RoundPost Mc I Ix k W) (a₁ k b) W)
  (hdone : ∀ (D : Nat) (W : World), w.heap.size ≤ D → I N W → W.heap[D]? = some (.deferred (some [])) → Q .normal { a with defers := { target := .collected D, args := #[] } :: a.defers } W)
  (hstop : ∀ (D : Nat) (c : Code) (W : World), w.heap.size ≤ D → Ix c W → W.heap[D]? = some (.deferred (some [])) → c.wpIn Fence.wide 0 P Q { a with defers := { target := .collected D, args := #[] } :: a.defers } W) :
  (Code.rangeFunc g #[p] assign body).wpIn Fence.wide 0 P Q a w := by
 refine wpIn_rangeFunc fun fn hfn => ?_
 obtain ⟨rec, hrec⟩ : ∃ rec : LoopState → Option Code → Loop, rec = fun st pe => { state := st, pending := pe, fn, tmps := a.tmps, params := #[p], assign, body, defers := w.heap.size } := ⟨_, rfl⟩
 generalize hW1 : (w.alloc (.deferred (some []))).alloc (.loop (rec .ready none)) = W1
 have hL1 : W1.heap[w.heap.size + 1]? = some (.loop (rec .ready none)) := by
  rw [← hW1]
  have := World.alloc_heap_new (w.alloc (.deferred (some []))) (.loop (rec .ready none))
  rwa [World.size_alloc] at this
 have hK1 : W1.heap[w.heap.size]? = some (.deferred (some [])) := by
  rw [← hW1]
  exact (Below.heap_alloc _ _ _ (by simp)).trans (World.alloc_heap_new w _)
 have hs1 : W1.heap.size = w.heap.size + 2 := by rw [← hW1]; simp
 have hI1 : I 0 W1 := hI 0 w W1 h0 (by rw [← hW1]; exact ((Below.refl _ _).alloc (Nat.le_refl _) _).alloc (by simp) _)
 let J : Nat → World → Prop := fun k W => I k W ∧ W.heap[w.heap.size + 1]? = some (.loop (rec .ready none)) ∧ W.heap[w.heap.size]? = some (.deferred (some []))
 let Jx : World → Prop := fun W => ∃ c, Ix c W ∧ W.heap[w.heap.size + 1]? = some (.loop (rec .done (some c))) ∧ W.heap[w.heap.size]? = some (.deferred (some []))
 have hJs : Stays J := fun k W W' ⟨hi, hl, hk⟩ hb => by
  have hlt := (Array.getElem?_eq_some_iff.1 hl).1
  exact ⟨hI k W W' hi (hb.mono (by omega)), (hb.block _ hlt).trans hl, (hb.block _ (by omega)).trans hk⟩
 have hJxs : StaysX Jx := fun W W' ⟨c, hi, hl, hk⟩ hb => by
  have hlt := (Array.getElem?_eq_some_iff.1 hl).1
  exact ⟨c, hIx c W W' hi (hb.mono (by omega)), (hb.block _ hlt).trans hl, (hb.block _ (by omega)).trans hk⟩
 refine ⟨w.heap.size + 1, [{ target := .collected w.heap.size, args := #[] }], W1, { target := .fn (.func gf) lb, args := #[.func (.yield (w.heap.size + 1)) #[] #[]] }, W1, gf,
  #[.func (.yield (w.heap.size + 1)) #[] #[]] ++ lb, W1, ?_, ?_, fun _ _ => trivial, ?_, fun h => by simp [Fence.wide] at h, ?_⟩
 · rw [← hW1, hrec]; exact run_enterLoop_outer (P := P) (w := w) fn a.tmps #[p] assign body
 · simp only [resolve, hg]
   simp [go_sem]
 · simp [invoke, go_sem, eg]
 · refine (callsIn_wide.2 (hseq (w.heap.size + 1) J Jx (fun b => Mc b ∨ b = w.heap.size + 1) W1 ?_ hJs hJxs (fun k W h => ⟨hKK k W h.1, ?_⟩) ?_ (show J 0 W1 from ⟨hI1, hL1, hK1⟩))).mono ?_
   · rintro b (hb | rfl)
     · have := hMc b hb; omega
     · omega
   · have := (Array.getElem?_eq_some_iff.1 h.2.1).1
     omega
   · rintro k W ⟨hi, hl, hk⟩ hlt
     have hsz : w.heap.size + 1 < W.heap.size := (Array.getElem?_eq_some_iff.1 hl).1
     have hy := run_yield (P := P) (args := #[el k]) hl (by rw [hrec]; rfl)
     rw [hrec] at hy
     have hz : Array.foldl (fun tmps (x : Nat × Value) => tmps.setIfInBounds x.1 x.2) a.tmps (#[p].zip #[el k]) = a.tmps.setIfInBounds p (el k) := by simp
     change _ = Result.ok (Next.round _ _ (Array.foldl (fun tmps (x : Nat × Value) => tmps.setIfInBounds x.1 x.2) a.tmps (#[p].zip #[el k])) _ _) _ at hy
     rw [hz] at hy
     refine ⟨fn, _, assign, body, hy, roundIn_of_wpIn hfn (hassign _ k W _ ?_)⟩
     have hl1 : (W.alloc (ob k)).heap[w.heap.size + 1]? = some (.loop (rec .ready none)) := (Below.heap_alloc W (ob k) _ hsz).trans hl
     have hk1 : (W.alloc (ob k)).heap[w.heap.size]? = some (.deferred (some [])) := (Below.heap_alloc W (ob k) _ (by omega)).trans hk
     have hsA : (W.alloc (ob k)).heap.size = W.heap.size + 1 := World.size_alloc _ _
     have hiA : I k (W.alloc (ob k)) := hI _ _ _ hi (((Below.refl _ _).alloc (Nat.le_refl _) _).mono (by omega))
     have hbA : ((W.alloc (ob k)).putObj (w.heap.size + 1) (.loop { rec .ready none with state := .busy })).heap[W.heap.size]? = some (ob k) := (World.putObj_heap_other (by omega)).trans (World.alloc_heap_new W (ob k))
     have hKA : Kept (fun b => Mc b ∨ b = w.heap.size + 1) W (W.alloc (ob k)) := Kept.of_below ((Below.refl _ _).alloc (Nat.le_refl _) _)
     clear hl hk hi
     generalize hWA : W.alloc (ob k) = WA at *
     refine ⟨_, run_beginRound hl1 (by rw [hrec]), ?_⟩
     have hszA : w.heap.size + 1 < WA.heap.size := by omega
     have hl2 : (WA.putObj (w.heap.size + 1) (.loop { rec .ready none with state := .busy })).heap[w.heap.size + 1]? = some (.loop { rec .ready none with state := .busy }) := World.putObj_heap_same hszA
     have hk2 : (WA.putObj (w.heap.size + 1) (.loop { rec .ready none with state := .busy })).heap[w.heap.size]? = some (.deferred (some [])) := (World.putObj_heap_other (by omega)).trans hk1
     have hsz2 : (WA.putObj (w.heap.size + 1) (.loop { rec .ready none with state := .busy })).heap.size = WA.heap.size := by simp
     refine wpIn_mono (hbody _ k _ _ (hI _ _ _ hiA (below_putObj _ _ _ (by omega))) hlt hbA (by omega)) ?_
     have fin : ∀ (jump : Option Code) (W3 : World), Kept Mc (WA.putObj (w.heap.size + 1) (.loop { rec .ready none with state := .busy })) W3 →
       (Instr.endRound (w.heap.size + 1) jump).run P W3 = .ok (.bool jump.isNone) (W3.putObj (w.heap.size + 1) (.loop (rec (if jump.isNone then .ready else .done) jump))) ∧
       w.heap.size + 2 ≤ W3.heap.size ∧
       (W3.putObj (w.heap.size + 1) (.loop (rec (if jump.isNone then .ready else .done) jump))).heap[w.heap.size + 1]? = some (.loop (rec (if jump.isNone then .ready else .done) jump)) ∧
       (W3.putObj (w.heap.size + 1) (.loop (rec (if jump.isNone then .ready else .done) jump))).heap[w.heap.size]? = some (.deferred (some [])) := fun jump W3 hko => by
      have hl3 := (hko.2 (w.heap.size + 1) (by omega) (fun h => by have := hMc _ h; omega)).trans hl2
      have hk3 := (hko.2 w.heap.size (by omega) (fun h => by have := hMc _ h; omega)).trans hk2
      have := run_endRound (P := P) jump hl3
      rw [hrec] at this ⊢
      exact ⟨this, (Array.getElem?_eq_some_iff.1 hl3).1, World.putObj_heap_same (Array.getElem?_eq_some_iff.1 hl3).1, (World.putObj_heap_other (by omega)).trans hk3⟩
     rintro e a3 W3 ⟨hko, hp⟩
     cases e with
     | normal =>
      obtain ⟨hr, hl3, hl4, hk4⟩ := fin none W3 hko
      exact ⟨_, _, hr, .inl ⟨rfl, ⟨hI _ _ _ hp (below_putObj _ _ _ (by omega)), hl4, hk4⟩, hKA.trans (((Kept.putObj (fun b => Mc b ∨ b = w.heap.size + 1) WA _ _ (.inr rfl)).trans (hko.mono fun b h => .inl h)).trans (Kept.putObj _ _ _ _ (.inr rfl)))⟩⟩
     | ret =>
      obtain ⟨hr, hl3, hl4, hk4⟩ := fin (some .ret) W3 hko
      exact ⟨_, _, hr, .inr ⟨rfl, .ret, hIx _ _ _ hp (below_putObj _ _ _ (by omega)), hl4, hk4⟩⟩
     | exit id =>
      obtain ⟨hr, hl3, hl4, hk4⟩ := fin (some (.exit id)) W3 hko
      exact ⟨_, _, hr, .inr ⟨rfl, .exit id, hIx _ _ _ hp (below_putObj _ _ _ (by omega)), hl4, hk4⟩⟩
     | goto t => exact hp.elim
     | panic ch => exact hp.elim
     | outgrown => exact hp.elim
   · rintro e W2 ⟨⟨v, rfl⟩, (⟨hi, hl, hk⟩ | ⟨c, hi, hl, hk⟩)⟩
     · exact ⟨none, _, by have := run_endLoop (P := P) hl (by rw [hrec]; simp); rw [hrec] at this; exact this, hdone _ _ (Nat.le_refl _) (hI _ _ _ hi (below_putObj _ _ _ (by omega))) ((World.putObj_heap_other (by omega)).trans hk)⟩
     · exact ⟨some c, _, by have := run_endLoop (P := P) hl (by rw [hrec]; simp); rw [hrec] at this; exact this, hstop _ c _ (Nat.le_refl _) (hIx _ _ _ hi (below_putObj _ _ _ (by omega))) ((World.putObj_heap_other (by omega)).trans hk)⟩
end
section
variable {P : Program} {α : Type} {cs : α → List Value} {sz : Nat}
theorem RowOf.flatN (hs : ∀ x, (cs x).length = sz) (hsz : 0 < sz) {w : World} {B : Nat} {A : Option Addr} {l : List α} (h : RowOf cs sz w B A l) {q : Nat} {u : Value} (hq : (l.flatMap cs)[q]? = some u) :
  ∃ b off, A = some ⟨b, off, none⟩ ∧ b < B ∧ w.cell? ⟨b, off + q, none⟩ = some u := by
 have hlen : q < l.length * sz := by
  rw [← flat_len hs l]
  rcases Nat.lt_or_ge q (l.flatMap cs).length with h' | h'
  · exact h'
  · rw [List.getElem?_eq_none h'] at hq; cases hq
 have hi : q / sz < l.length := by rw [Nat.div_lt_iff_lt_mul hsz]; exact hlen
 have hj : q % sz < sz := Nat.mod_lt _ hsz
 obtain ⟨x, hx⟩ := get_some hi
 obtain ⟨b, off, hA, hB, hc⟩ := h (Nat.lt_of_le_of_lt (Nat.zero_le _) hi)
 have hv : (cs x)[q % sz]? = some ((cs x)[q % sz]'(by rw [hs]; exact hj)) := List.getElem?_eq_getElem _
 have hf := flat_at hs l (q / sz) x hx (q % sz) _ hv
 have he : q / sz * sz + q % sz = q := by rw [Nat.mul_comm]; exact Nat.div_add_mod q sz
 rw [he, hq] at hf
 have := hc (q / sz) x hx (q % sz) _ hv
 rw [Nat.add_assoc, he, ← hf] at this
 exact ⟨b, off, hA, hB, this⟩
theorem flat_oneN (hone1 : ∀ y, ∀ u ∈ cs y, u.oneCell' = true) (l : List α) : ∀ u ∈ l.flatMap cs, u.oneCell' = true := by
 intro u hu
 obtain ⟨x, _, hx⟩ := List.mem_flatMap.1 hu
 exact hone1 x u hx
end
theorem info24 : (Tryz.prog.info? 24).map (fun i => (i.zero, i.size, i.bytes)) = some (some (.agg #[.int .i64 0, .int .i64 0, .int .i64 0, .int .i64 0, .string ⟨#[]⟩, .slice none 0 0]), 6, 72) := by kernel_rfl
theorem run_append_rows (A : Option Addr) (m c : Nat) (V : Value) (l l1 : List RN) (B B1 : Nat) (w : World) (hV : OwnN w B V l) (hm : m = l1.length) (hl : l.length + l1.length ≤ 100000) (hr : RowOf RN.cells 6 w B1 A l1) (hB : B ≤ w.heap.size) (hnil : A = none → m = 0) :
  ∃ v w1, (Builtin.append_ #[22, 22] 22 #[V, .slice A m c]).run Tryz.prog w = .ok v w1 ∧ OwnN w1 B v (l ++ l1) ∧ w.grownBy w1 V.ownBlock := by
 obtain ⟨i33, hi33, hz0, hz1, hz2⟩ := info_cut info24
 subst hm
 cases A with
 | none =>
  have h0 := hnil rfl
  obtain rfl : l1 = [] := List.eq_nil_of_length_eq_zero h0
  rcases hV.2 with ⟨hv, h0'⟩ | ⟨g, cap, cur, hv, hg1, hg, hc, hcm, hs, ht⟩
  · subst hv
    refine ⟨.slice none 0 0, w, ?_, by rw [List.append_nil]; exact hV, World.grownBy.refl _ _⟩
    simp [Builtin.append_, run_underlying Tryz.underlying22, sizeOf, typeInfo, zeroValue, hi33, hz0, Builtin.lenOf, run_firstCells_none]
  · subst hv
    refine ⟨.slice (some ⟨g, 0, none⟩) l.length cap, w, ?_, by rw [List.append_nil]; exact hV, World.grownBy.refl _ _⟩
    simp [Builtin.append_, run_underlying Tryz.underlying22, sizeOf, typeInfo, zeroValue, hi33, hz0, Builtin.lenOf, run_firstCells_none, hc, storeCells]
 | some a =>
  obtain ⟨v, w1, h1, h2, h3, _⟩ := run_append_own_at (P := Tryz.prog) w B 22 22 24 i33 _ 6 72 Tryz.underlying22 hi33 hz0 hz1 hz2 rfl (by decide) V l.length (l.flatMap RN.cells) hV a l1.length c (l1.flatMap RN.cells) (flat_len RN.len l1)
   (fun j u hj => by
    obtain ⟨b, off, hA, _, hc⟩ := hr.flatN RN.len (by decide) hj
    injection hA with hA
    subst hA
    rw [Addr.add_lit]
    exact hc) (flat_oneN RN.one l1) (by unfold maxLen; omega) (by omega) hB
  refine ⟨v, w1, h1, ?_, h3⟩
  unfold OwnN Own
  rw [List.length_append, List.flatMap_append]
  exact h2
theorem wpList_append_run {P : Program} {ops : Array Oper} {rest : List Oper} {o : Oper} {a : Act} {Q : Exit → Act → World → Prop} (hgd : o.guard = none) (s x : Operand) (t : TypeId)
  (ho : o.op = .call { callee := .builtin .append, args := #[s, x], argTypes := #[t, t] }) (W w1 : World) (V X v : Value) (hs : a.eval s = V) (hx : a.eval x = X)
  (hrun : (Builtin.append_ #[t, t] o.type #[V, X]).run P W = .ok v w1) (h : wpList P ops Q rest (a.put o.dst v) w1) : wpList P ops Q (o :: rest) a W := by
 refine wpList_plain hgd fun K hK => ?_
 unfold Oper.wp execOp
 simp only [ho, resolve, invoke, builtin, Sem.run_bind, Sem.run_pure, Result.andThen_ok, List.map_toArray, List.map_cons, List.map_nil, hs, hx, hrun]
 exact hK _ _ h
theorem wpList_append_rows {ops : Array Oper} {rest : List Oper} {o : Oper} {a : Act} {Q : Exit → Act → World → Prop} (hgd : o.guard = none) (s x : Operand)
  (ho : o.op = .call { callee := .builtin .append, args := #[s, x], argTypes := #[22, 22] }) (hty : o.type = 22) (W : World) (B B1 : Nat) (V : Value) (A : Option Addr) (m c : Nat) (l l1 : List RN) (hs : a.eval s = V) (hx : a.eval x = .slice A m c)
  (hV : OwnN W B V l) (hm : m = l1.length) (hl : l.length + l1.length ≤ 100000) (hr : RowOf RN.cells 6 W B1 A l1) (hB : B ≤ W.heap.size) (hnil : A = none → m = 0)
  (h : ∀ v' w', OwnN w' B v' (l ++ l1) → W.grownBy w' V.ownBlock → wpList Tryz.prog ops Q rest (a.put o.dst v') w') : wpList Tryz.prog ops Q (o :: rest) a W := by
 obtain ⟨v, w1, hrun, h1, h2⟩ := run_append_rows A m c V l l1 B B1 W hV hm hl hr hB hnil
 exact wpList_append_run hgd s x 22 ho W w1 V _ v hs hx (by rw [hty]; exact hrun) (h v w1 h1 h2)
theorem ReadL.app {w : World} {B : Nat} {L M : List Tree} {rs ss : List RN} (h : ReadL w B L rs) (k : ReadL w B M ss) : ReadL w B (L ++ M) (rs ++ ss) := by
 refine ⟨by simp [h.1, k.1], fun i y s hy hs => ?_⟩
 rcases Nat.lt_or_ge i L.length with hi | hi
 · rw [List.getElem?_append_left hi] at hy
   rw [List.getElem?_append_left (by rw [h.1]; exact hi)] at hs
   exact h.2 i y s hy hs
 · rw [List.getElem?_append_right hi] at hy
   rw [List.getElem?_append_right (by rw [h.1]; exact hi), h.1] at hs
   exact k.2 _ y s hy hs
theorem OwnN.one_ (w : World) (r : RN) : OwnN (w.alloc (boxC r)) w.heap.size (.slice (some ⟨w.heap.size, 0, none⟩) 1 1) [r] := by
 have := World.ownsRow_lit (base := w.heap.size) (e := 24) (size := 6) w #[.int .i64 r.kind, .int .i64 r.fr, .int .i64 r.en, .int .i64 r.at_, .string r.name, .slice r.A r.n r.cap] 1 (Nat.le_refl _) (by decide) rfl
 exact this
mutual
theorem path_cost (fr to_ : Int) : ∀ t : Tree, (pathV fr to_ t).length ≤ costT t
 | .mk k f e a n l => by
  have := pathL_cost fr to_ l
  rw [pathV, costT]
  split
  · simp
  · rw [List.length_cons]; omega
theorem pathL_cost (fr to_ : Int) : ∀ l : List Tree, (pathL fr to_ l).length ≤ costL l
 | [] => by simp [pathL]
 | t :: l => by
  have h1 := path_cost fr to_ t
  have h2 := pathL_cost fr to_ l
  rw [pathL, costL]
  split <;> omega
end
theorem aPath (fr to_ : Int) : ∀ (t : Tree) (r : RN) (w : World) (B : Nat), NodeM w B t r → B ≤ w.heap.size → costT t ≤ 3000 →
  Calls Tryz.prog 20 #[r.val, .int .i64 fr, .int .i64 to_] w (NodesOut (pathV fr to_ t) B w) := by
 refine tree_ind (fun k f en a n l ih r w B hm hB hc => ?_)
 obtain ⟨A, cap, rfl, hk⟩ := hm.open2
 have hlen := kids_few hc
 have HB := Lib.hid ((Below.refl w.heap.size w).alloc (Nat.le_refl _) (boxC ⟨k, f, en, a, toBA n, A, l.length, cap⟩))
 have HK := Lib.hid hk
 have HI := Lib.hid (fun x hx rx W B h1 h2 => ih x hx rx W B h1 h2 (kid_cost hc hx))
 have HC := Lib.hid hc
 have HM := Lib.hid hm
 have HBB := Lib.hid hB
 clear hm ih hc hk
 unfold RN.val
 by_cases h0 : k = 0
 · subst h0
   have HV := Lib.hid (show pathV fr to_ (.mk 0 f en a n l) = [] by simp [pathV])
   go_enter Tryz.func20, Tryz.ntmps20
   go_wp2_with fail
   go_ret
   rw [HV.out]; exact .nil_ _ _ _ HB.out
 have b0 : (k == 0) = false := beq_eq_false_iff_ne.2 h0
 by_cases h1 : fr < f
 · have HV := Lib.hid (show pathV fr to_ (.mk k f en a n l) = [] by rw [pathV, if_pos (by omega)])
   go_enter Tryz.func20, Tryz.ntmps20
   go_wp2_with fail
   go_ret
   rw [HV.out]; exact .nil_ _ _ _ HB.out
 by_cases h2 : to_ < fr
 · have HV := Lib.hid (show pathV fr to_ (.mk k f en a n l) = [] by rw [pathV, if_pos (by omega)])
   go_enter Tryz.func20, Tryz.ntmps20
   go_wp2_with fail
   go_ret
   rw [HV.out]; exact .nil_ _ _ _ HB.out
 by_cases h3 : en < to_
 · have HV := Lib.hid (show pathV fr to_ (.mk k f en a n l) = [] by rw [pathV, if_pos (by omega)])
   go_enter Tryz.func20, Tryz.ntmps20
   go_wp2_with fail
   go_ret
   rw [HV.out]; exact .nil_ _ _ _ HB.out
 have HV := Lib.hid (show pathV fr to_ (.mk k f en a n l) = .mk k f en a n l :: pathL fr to_ l by rw [pathV, if_neg (by omega)])
 go_enter Tryz.func20, Tryz.ntmps20
 go_wp2_with fail
 go_loopw [33] (fun i wr => ∃ j : Nat, j ≤ l.length ∧ i = .int .i64 j ∧ pathL fr to_ l = pathL fr to_ (l.drop j) ∧ wr.heap[w.heap.size]? = some (boxC ⟨k, f, en, a, toBA n, A, l.length, cap⟩) ∧ Below w.heap.size w wr) (fun i _ => l.length - (intOf i).toNat)
 case atStart => exact ⟨0, Nat.zero_le _, rfl, rfl, heap_alloc_new _ _, HB.out⟩
 case round =>
  obtain ⟨j, hj, rfl, hv, hbx, hb⟩ := hrel
  have HB1 := Lib.hid hb
  have HV1 := Lib.hid hv
  have HBX := Lib.hid hbx
  obtain ⟨e0, e1, e2, e3, e4, e5, ez, el⟩ := ncells hbx
  have hsz := hb.size
  clear hb hv hbx
  by_cases hlt : j < l.length
  · obtain ⟨x, hx⟩ : ∃ x, l[j]? = some x := ⟨_, List.getElem?_eq_getElem hlt⟩
    obtain ⟨b, off, rx, rfl, hbb, hmx, c0, c1, c2, c3, c4, c5⟩ := (HK.out.later HB1.out HBB.out).at hx
    have hb1 : b < wr.heap.size := by omega
    have HX := Lib.hid (show pathL fr to_ l = if (pathV fr to_ x).isEmpty then pathL fr to_ (l.drop (j + 1)) else pathV fr to_ x by rw [HV1.out, drop_at_T hx, pathL])
    have HXC := Lib.hid (kid_cost HC.out (List.mem_of_getElem? hx))
    have HCL := Lib.hid (HI.out x (List.mem_of_getElem? hx) rx (wr.alloc (boxC rx)) B (hmx.alloc (by omega) _) (by rw [World.size_alloc]; omega))
    unfold RN.val at HCL
    clear hmx hx
    cases hq : (pathV fr to_ x).isEmpty with
    | true =>
     have hl0 : (pathV fr to_ x).length = 0 := by
      have := List.isEmpty_iff.1 hq; rw [this]; rfl
     rw [hq] at HX
     clear hq
     go_wp2_with (first | (go_at_call 20; refine HCL.out.mono ?_; rintro e w2 ⟨⟨A2, cap2, rs2, rfl, hrow2, hrl2, hn2⟩, hb2⟩; rw [hl0]; have HB2 := Lib.hid (And.intro (nb_below (nb_alloc HBX.out) hb2) (below_then (HB1.out.alloc HB1.out.size _) hb2)); clear hb2 hn2 hrow2 hrl2))
     go_roundw
     case rel => exact ⟨j + 1, by omega, by go_num, by rw [HX.out]; rfl, HB2.out.1, HB2.out.2⟩
     case measure => simp only [intOf]; omega
    | false =>
     have hl0 : ∃ m, (pathV fr to_ x).length = m ∧ 0 < m ∧ m ≤ 3000 := ⟨_, rfl, by
      cases hp : pathV fr to_ x with
      | nil => rw [hp] at hq; simp at hq
      | cons y ys => simp, Nat.le_trans (path_cost fr to_ x) HXC.out⟩
     obtain ⟨m, hl0, hm0, hm1⟩ := hl0
     rw [hq] at HX
     clear hq
     go_wp2_with (first | (go_at_call 20; refine HCL.out.mono ?_; rintro e w2 ⟨⟨A2, cap2, rs2, rfl, hrow2, hrl2, hn2⟩, hb2⟩; rw [hl0]; have HB2 := Lib.hid (And.intro (nb_below (nb_alloc HBX.out) hb2) (below_then (HB1.out.alloc HB1.out.size _) hb2)); have HR2 := Lib.hid (And.intro hrow2 (And.intro hrl2 hn2)); obtain ⟨g0, g1, g2, g3, g4, g5, gz, gl⟩ := ncells HB2.out.1; clear hb2 hn2 hrow2 hrl2) | (at_builtin; go_must (refine wpList_append_rows rfl _ _ rfl rfl (w2.alloc (boxC ⟨k, f, en, a, toBA n, some ⟨b, off, none⟩, l.length, cap⟩)) w2.heap.size w2.heap.size (.slice (some ⟨w2.heap.size, 0, none⟩) 1 1) A2 m cap2 [⟨k, f, en, a, toBA n, some ⟨b, off, none⟩, l.length, cap⟩] rs2 (by rfl) (by rfl) (OwnN.one_ _ _) (by rw [HR2.out.2.1.1, hl0]) (by rw [HR2.out.2.1.1, hl0]; simp; omega) (HR2.out.1.alloc (Nat.le_refl _) _) (by rw [World.size_alloc]; omega) (fun hA => by rw [← hl0]; exact HR2.out.2.2 hA) ?_); intro v3 w3 ho3 hg3))
     go_ret
     have HVX : pathV fr to_ (.mk k f en a n l) = .mk k f en a n l :: pathV fr to_ x := by rw [HV.out, HX.out]; rfl
     rw [HVX]
     have hbw : Below w.heap.size w (wr.alloc (boxC rx)) := HB1.out.alloc HB1.out.size _
     exact .own ho3 (.cons HM.out (HR2.out.2.1.back (B' := w.heap.size) hbw HBB.out)) (below_grown ((HB2.out.2.alloc HB2.out.2.size _)) ((OwnN.one_ w2 _).mono HB2.out.2.size) (by rw [World.size_alloc]; omega) hg3)
  · have HV2 := Lib.hid (show pathV fr to_ (.mk k f en a n l) = [.mk k f en a n l] by rw [HV.out, HV1.out, List.drop_of_length_le (by omega)]; rfl)
    go_wp2_with fail
    go_ret
    rw [HV2.out]
    exact .own (OwnN.one_ wr ⟨k, f, en, a, toBA n, A, l.length, cap⟩) (.cons HM.out .nil_) (HB1.out.alloc HB1.out.size _)
theorem eachL_snoc : ∀ (l : List Tree) (x : Tree), eachL (l ++ [x]) = eachL l ++ eachV x
 | [], x => by simp [eachL]
 | t :: l, x => by rw [List.cons_append, eachL, eachL_snoc l x, eachL, List.append_assoc]
theorem tight_no {size k f en a : Int} {n : BL} {l : List Tree} (h : ¬ (0 ≤ f ∧ f ≤ a ∧ a ≤ en ∧ en ≤ size)) : tightV size (.mk k f en a n l) = false := by
 show (decide (0 ≤ f) && decide (f ≤ a) && decide (a ≤ en) && decide (en ≤ size) && tightL en f l) = _
 rw [Bool.eq_false_iff]
 intro hh
 simp only [Bool.and_eq_true, decide_eq_true_eq] at hh
 omega
theorem tight_yes {size k f en a : Int} {n : BL} {l : List Tree} (h : 0 ≤ f ∧ f ≤ a ∧ a ≤ en ∧ en ≤ size) : tightV size (.mk k f en a n l) = tightL en f l := by
 show (decide (0 ≤ f) && decide (f ≤ a) && decide (a ≤ en) && decide (en ≤ size) && tightL en f l) = _
 rw [decide_eq_true h.1, decide_eq_true h.2.1, decide_eq_true h.2.2.1, decide_eq_true h.2.2.2]
 rfl
theorem aTight (size : Int) (t : Tree) (r : RN) (w : World) (hm : NodeM w w.heap.size t r) (hc : costT t ≤ 3000) :
  Calls Tryz.prog 52 #[r.val, .int .i64 size] w fun e w' => e = .returned (.bool (tightV size t)) ∧ Below w.heap.size w w' := by
 obtain ⟨k, f, en, a, n, l⟩ := t
 obtain ⟨A, cap, rfl, hk⟩ := hm.open2
 have hlen := kids_few hc
 have HB := Lib.hid ((Below.refl w.heap.size w).alloc (Nat.le_refl _) (boxC ⟨k, f, en, a, toBA n, A, l.length, cap⟩))
 have HK := Lib.hid hk
 clear hm hc hk
 unfold RN.val
 by_cases h0 : f < 0
 · have HV := Lib.hid (tight_no (size := size) (k := k) (f := f) (en := en) (a := a) (n := n) (l := l) (by omega))
   go_enter Tryz.func52, Tryz.ntmps52
   go_wp2_with fail
   go_ret
   exact ⟨ret_bool HV.out.symm, HB.out⟩
 by_cases h1 : a < f
 · have HV := Lib.hid (tight_no (size := size) (k := k) (f := f) (en := en) (a := a) (n := n) (l := l) (by omega))
   go_enter Tryz.func52, Tryz.ntmps52
   go_wp2_with fail
   go_ret
   exact ⟨ret_bool HV.out.symm, HB.out⟩
 by_cases h2 : en < a
 · have HV := Lib.hid (tight_no (size := size) (k := k) (f := f) (en := en) (a := a) (n := n) (l := l) (by omega))
   go_enter Tryz.func52, Tryz.ntmps52
   go_wp2_with fail
   go_ret
   exact ⟨ret_bool HV.out.symm, HB.out⟩
 by_cases h3 : size < en
 · have HV := Lib.hid (tight_no (size := size) (k := k) (f := f) (en := en) (a := a) (n := n) (l := l) (by omega))
   go_enter Tryz.func52, Tryz.ntmps52
   go_wp2_with fail
   go_ret
   exact ⟨ret_bool HV.out.symm, HB.out⟩
 have HV := Lib.hid (tight_yes (size := size) (k := k) (f := f) (en := en) (a := a) (n := n) (l := l) (by omega))
 go_enter Tryz.func52, Tryz.ntmps52
 go_wp2_with fail
 go_loopw [5, 36] (fun m i wr => ∃ (j : Nat) (z : Int), j ≤ l.length ∧ i = .int .i64 j ∧ m = .int .i64 z ∧ tightL en f l = tightL en z (l.drop j) ∧ wr.heap[w.heap.size]? = some (boxC ⟨k, f, en, a, toBA n, A, l.length, cap⟩) ∧ Below w.heap.size w wr) (fun _ i _ => l.length - (intOf i).toNat)
 case atStart => exact ⟨0, f, Nat.zero_le _, rfl, rfl, rfl, heap_alloc_new _ _, HB.out⟩
 case round =>
  obtain ⟨j, z, hj, rfl, rfl, hv, hbx, hb⟩ := hrel
  have HB1 := Lib.hid hb
  have HV1 := Lib.hid hv
  have HBX := Lib.hid hbx
  obtain ⟨e0, e1, e2, e3, e4, e5, ez, el⟩ := ncells hbx
  have hsz := hb.size
  clear hb hv hbx
  by_cases hlt : j < l.length
  · obtain ⟨x, hx⟩ : ∃ x, l[j]? = some x := ⟨_, List.getElem?_eq_getElem hlt⟩
    obtain ⟨b, off, rx, rfl, hbb, hmx, c0, c1, c2, c3, c4, c5⟩ := (HK.out.later HB1.out (Nat.le_refl _)).at hx
    have hb1 : b < wr.heap.size := by omega
    have HX := Lib.hid (show tightL en f l = if rx.kind = 0 then tightL en z (l.drop (j + 1)) else decide (z ≤ rx.fr) && decide (rx.en ≤ en) && tightL en (max z rx.en) (l.drop (j + 1)) by
     rw [HV1.out, drop_at_T hx, tightL, hmx.kind, hmx.fr, hmx.en])
    have HBX2 := Lib.hid (nb_alloc (o' := boxC rx) HBX.out)
    have HB2 := Lib.hid (HB1.out.alloc HB1.out.size (boxC rx))
    clear hmx hx
    obtain ⟨xk, xf, xe, xa, xn, xA, xc, xp⟩ := rx
    simp only at c0 c1 c2 c3 c4 c5 HX
    by_cases k0 : xk = 0
    · rw [if_pos k0] at HX
      subst k0
      go_wp2_with fail
      go_roundw
      case rel => exact ⟨j + 1, z, by omega, by go_num, rfl, HX.out, HBX2.out, HB2.out⟩
      case measure => simp only [intOf]; omega
    · rw [if_neg k0] at HX
      have b0 : (xk == 0) = false := beq_eq_false_iff_ne.2 k0
      by_cases q1 : xf < z
      · have HF := Lib.hid (show tightV size (.mk k f en a n l) = false by rw [HV.out, HX.out, decide_eq_false (by omega)]; simp)
        go_wp2_with fail
        go_ret
        exact ⟨ret_bool HF.out.symm, HB2.out⟩
      by_cases q2 : en < xe
      · have HF := Lib.hid (show tightV size (.mk k f en a n l) = false by rw [HV.out, HX.out, decide_eq_false (p := xe ≤ en) (by omega)]; simp)
        go_wp2_with fail
        go_ret
        exact ⟨ret_bool HF.out.symm, HB2.out⟩
      have HX2 := Lib.hid (show tightL en f l = tightL en (max z xe) (l.drop (j + 1)) by rw [HX.out, decide_eq_true (by omega), decide_eq_true (by omega)]; rfl)
      go_wp2_with fail
      go_roundw
      case rel => exact ⟨j + 1, max z xe, by omega, by go_num, by go_num, HX2.out, HBX2.out, HB2.out⟩
      case measure => simp only [intOf]; omega
  · have HF := Lib.hid (show tightV size (.mk k f en a n l) = true by rw [HV.out, HV1.out, List.drop_of_length_le (by omega)]; rfl)
    go_wp2_with fail
    go_ret
    exact ⟨ret_bool HF.out.symm, HB1.out⟩
def PFx (X : Nat → List RN) (j : Nat) : List RN := (List.range j).flatMap X
theorem PFx_succ (X : Nat → List RN) (j : Nat) : PFx X (j + 1) = PFx X j ++ X j := by
 unfold PFx; rw [List.range_succ, List.flatMap_append]; simp
theorem PFx_at (X : Nat → List RN) {j m : Nat} {y : RN} (h : (X j)[m]? = some y) : ∀ n, j < n → (PFx X n)[(PFx X j).length + m]? = some y := by
 intro n
 induction n with
 | zero => intro h; omega
 | succ n ih =>
  intro hj
  rw [PFx_succ]
  have hm : m < (X j).length := (List.getElem?_eq_some_iff.1 h).1
  by_cases hn : j = n
  · subst hn
    rw [List.getElem?_append_right (by omega), Nat.add_sub_cancel_left]; exact h
  · have h1 := ih (by omega)
    have := (List.getElem?_eq_some_iff.1 h1).1
    rw [List.getElem?_append_left this]; exact h1
theorem PFx_read {w : World} {B : Nat} {l : List Tree} {X : Nat → List RN} (h : ∀ i x, l[i]? = some x → ReadL w B (eachV x) (X i)) : ∀ j, j ≤ l.length → ReadL w B (eachL (l.take j)) (PFx X j) := by
 intro j
 induction j with
 | zero => intro _; exact .nil_
 | succ j ih =>
  intro hj
  obtain ⟨x, hx⟩ : ∃ x, l[j]? = some x := ⟨_, List.getElem?_eq_getElem (by omega)⟩
  rw [take_succ_at hx, eachL_snoc, PFx_succ]
  exact (ih (by omega)).app (h j x hx)
def EachC (w : World) (B : Nat) (r : RN) (rs : List RN) : Prop :=
 ∀ (lp : Nat) (J : Nat → World → Prop) (Jx : World → Prop) (M : Nat → Prop) (W : World) (s : Nat), (∀ k W1, J k W1 → ∀ b, M b → b < W1.heap.size) → Stays J → StaysX Jx →
  (∀ k W1, J k W1 → (∀ p : Addr, p.block < B → W1.cell? p = w.cell? p) ∧ B ≤ W1.heap.size) →
  (∀ k W1, J k W1 → s ≤ k → ∀ y, rs[k - s]? = some y → YieldAt Fence.wide 0 Tryz.prog lp #[y.val] W1 fun e W' => (e = .returned (.bool true) ∧ J (k + 1) W' ∧ Kept M W1 W') ∨ (e = .returned (.bool false) ∧ Jx W')) → J s W →
  Calls Tryz.prog 49 #[r.val, .func (.yield lp) #[] #[]] W fun e W' => (e = .returned (.bool true) ∧ J (s + rs.length) W') ∨ (e = .returned (.bool false) ∧ Jx W')
theorem aeach (w : World) (B : Nat) : ∀ (t : Tree) (r : RN), NodeM w B t r → costT t ≤ 3000 → ∃ rs, ReadL w B (eachV t) rs ∧ EachC w B r rs := by
 refine tree_ind (fun k f en a n l ih r hm hc => ?_)
 obtain ⟨A, cap, ks, rfl, hr, hl, hk⟩ := hm.open_
 have hlen := kids_few hc
 by_cases h0 : k = 0
 · subst h0
   refine ⟨[], by rw [show eachV (.mk 0 f en a n l) = [] by simp [eachV]]; exact .nil_, ?_⟩
   intro lp J Jx M W s hM hJ hJx hK hY h0
   unfold RN.val
   have HJ := Lib.hid (hJ _ _ (W.alloc (boxC ⟨0, f, en, a, toBA n, A, l.length, cap⟩)) h0 ((Below.refl _ _).alloc (Nat.le_refl _) _))
   clear hM hJx hK hY h0 hJ hm hr hk ih
   go_enter Tryz.func49, Tryz.ntmps49
   go_wp2_with fail
   go_ret
   exact .inl ⟨rfl, HJ.out⟩
 have b0 : (k == 0) = false := beq_eq_false_iff_ne.2 h0
 have hX : ∀ i, i < l.length → ∃ rs : List RN, ∀ x rx, l[i]? = some x → ks[i]? = some rx → ReadL w B (eachV x) rs ∧ EachC w B rx rs := fun i hi => by
  obtain ⟨x, hx⟩ : ∃ x, l[i]? = some x := ⟨_, List.getElem?_eq_getElem hi⟩
  obtain ⟨rx, hrx⟩ : ∃ rx, ks[i]? = some rx := ⟨_, List.getElem?_eq_getElem (by omega)⟩
  obtain ⟨rs, h1, h2⟩ := ih x (List.mem_of_getElem? hx) rx (hk i x rx hx hrx) (kid_cost hc (List.mem_of_getElem? hx))
  refine ⟨rs, fun x' rx' hx' hrx' => ?_⟩
  rw [hx] at hx'; rw [hrx] at hrx'
  cases hx'; cases hrx'
  exact ⟨h1, h2⟩
 obtain ⟨X, hX⟩ := Go.Deep.choose_lt hX
 have hread : ∀ i x, l[i]? = some x → ReadL w B (eachV x) (X i) := fun i x hx => by
  have hi := (List.getElem?_eq_some_iff.1 hx).1
  exact (hX i hi x _ hx (List.getElem?_eq_getElem (by omega))).1
 have hall := PFx_read hread l.length (Nat.le_refl _)
 rw [List.take_length] at hall
 refine ⟨⟨k, f, en, a, toBA n, A, l.length, cap⟩ :: PFx X l.length, by rw [eachV, if_neg h0]; exact .cons hm hall, ?_⟩
 intro lp J Jx M W s hM hJ hJx hK hY hs
 have HM := Lib.hid hM
 have HJ := Lib.hid hJ
 have HJX := Lib.hid hJx
 have HK := Lib.hid hK
 have HY := Lib.hid hY
 have HX := Lib.hid hX
 have HS := Lib.hid hs
 have HR := Lib.hid (And.intro hr (And.intro hl hk))
 have hj0 := hJ _ _ (W.alloc (.cells #[.int .i64 k, .int .i64 f, .int .i64 en, .int .i64 a, .string (toBA n), .slice A l.length cap] 24)) hs ((Below.refl _ _).alloc (Nat.le_refl _) _)
 obtain ⟨f0, t0, a0, bb0, hy0, hR0⟩ := hY s _ hj0 (Nat.le_refl _) ⟨k, f, en, a, toBA n, A, l.length, cap⟩ (by rw [Nat.sub_self]; rfl)
 have HR0 := Lib.hid hR0
 unfold RN.val at hy0
 clear hM hJ hJx hK hY hX hr hl hk hm ih hread hall hs hj0 hR0
 unfold RN.val
 refine (callsIn_wide (n := 0)).1 (callsIn_of_wp Tryz.func49 rfl trivial ?_)
 simp only [Tryz.ntmps49, List.size_toArray, List.length_cons, List.length_nil, Nat.reduceAdd, Nat.reduceSub, Array.replicate_succ, Array.replicate_zero, List.push_toArray, List.append_toArray, List.nil_append, List.cons_append]
 gi_wp2_with fail
 refine ⟨rfl, HR0.out.mono ?_⟩
 have hMx : ¬ M W.heap.size := fun h => by have := HM.out _ _ HS.out _ h; omega
 have heach : eachV (.mk k f en a n l) = .mk k f en a n l :: eachL l := by rw [eachV, if_neg h0]
 rintro e W3 (⟨rfl, hj3, hk3⟩ | ⟨rfl, hj3⟩)
 · have hbx : W3.heap[W.heap.size]? = some (boxC ⟨k, f, en, a, toBA n, A, l.length, cap⟩) := (hk3.2 W.heap.size (by rw [World.size_alloc]; omega) hMx).trans (heap_alloc_new _ _)
   obtain ⟨e0, e1, e2, e3, e4, e5, ez, el⟩ := ncells hbx
   have HJ3 := Lib.hid hj3
   clear hy0 hk3 hj3 hbx
   gi_wp2_with fail
   gi_loopw [17] (fun i wr => ∃ j : Nat, j ≤ l.length ∧ i = .int .i64 j ∧ J (s + 1 + (PFx X j).length) wr) (fun i _ => l.length - (intOf i).toNat)
   case atStart => exact ⟨0, Nat.zero_le _, rfl, HJ3.out⟩
   case round =>
    obtain ⟨j, hj, rfl, hJj⟩ := hrel
    have HJJ := Lib.hid hJj
    obtain ⟨q1, q2⟩ := HK.out _ _ hJj
    clear hJj
    by_cases hlt : j < l.length
    · obtain ⟨x, hx⟩ : ∃ x, l[j]? = some x := ⟨_, List.getElem?_eq_getElem hlt⟩
      obtain ⟨b, off, rx, rfl, hbb, hrx, hmx, c0, c1, c2, c3, c4, c5⟩ := kid_at (w := wr) (HR.out.1.keep fun p hp => q1 p hp) HR.out.2.1 (fun i y ry hy hry => (HR.out.2.2 i y ry hy hry).keep fun p hp => q1 p hp) hx
      have hb1 : b < wr.heap.size := by omega
      clear q1
      obtain ⟨_, hEC⟩ := HX.out j hlt x rx hx hrx
      have HE := Lib.hid (hEC lp J Jx M (wr.alloc (.cells #[.int .i64 rx.kind, .int .i64 rx.fr, .int .i64 rx.en, .int .i64 rx.at_, .string rx.name, .slice rx.A rx.n rx.cap] 24)) (s + 1 + (PFx X j).length)
       HM.out HJ.out HJX.out (fun k W1 h => HK.out k W1 h)
       (fun k W1 h hk y hy => HY.out k W1 h (by omega) y (by
        obtain ⟨m, rfl⟩ : ∃ m, k = s + 1 + (PFx X j).length + m := ⟨k - (s + 1 + (PFx X j).length), by omega⟩
        rw [show s + 1 + (PFx X j).length + m - s = (PFx X j).length + m + 1 by omega, List.getElem?_cons_succ]
        exact PFx_at X (by rwa [Nat.add_sub_cancel_left] at hy) _ hlt))
       (HJ.out _ _ _ HJJ.out ((Below.refl _ _).alloc (Nat.le_refl _) _)))
      unfold RN.val at HE
      clear hmx hrx hEC hx
      gi_wp2_with (refine ⟨trivial, rfl, ?_⟩; gi_at_call 49; refine (callsIn_wide.2 HE.out).mono ?_)
      rintro e W5 (⟨rfl, hj5⟩ | ⟨rfl, hj5⟩)
      · have HJ5 := Lib.hid hj5
        clear hj5
        gi_wp2_with fail
        go_roundw
        case rel => exact ⟨j + 1, by omega, by go_num, by rw [PFx_succ, List.length_append, ← Nat.add_assoc]; exact HJ5.out⟩
        case measure => simp only [intOf]; omega
      · have HJ5 := Lib.hid hj5
        clear hj5
        gi_wp2_with fail
        go_ret
        exact .inr ⟨rfl, HJ5.out⟩
    · have hjl : j = l.length := by omega
      clear q1
      have HJ6 := Lib.hid (show J (s + (PFx X l.length).length + 1) wr by rw [← hjl, show s + (PFx X j).length + 1 = s + 1 + (PFx X j).length by omega]; exact HJJ.out)
      clear hjl
      gi_wp2_with fail
      go_ret
      exact .inl ⟨rfl, HJ6.out⟩
 · have HJ3 := Lib.hid hj3
   clear hy0 hj3
   gi_wp2_with fail
   go_ret
   exact .inr ⟨rfl, HJ3.out⟩
section
attribute [local go_sem] Oper.semAt_some
def r0N : RN := ⟨0, 0, 0, 0, ⟨#[]⟩, none, 0, 0⟩
def elN (rs : List RN) (k : Nat) : RN := rs[k]?.getD r0N
theorem elN_at {rs : List RN} {k : Nat} {y : RN} (h : rs[k]? = some y) : elN rs k = y := by unfold elN; rw [h]; rfl
def KKe (w : World) (B : Nat) (bx : Nat) (r : RN) (W : World) : Prop := W.heap[bx]? = some (boxC r) ∧ (∀ p : Addr, p.block < B → W.cell? p = w.cell? p) ∧ B ≤ W.heap.size
theorem each_hands {w : World} {B : Nat} {r : RN} {rs : List RN} (hE : EachC w B r rs) (bx : Nat) : Hands2 Tryz.prog 48 #[.pointer (some ⟨bx, 0, none⟩)] rs.length (fun k => (elN rs k).val) (KKe w B bx r) := by
 intro lp J Jx M W hM hJ hJx hK hY h0
 obtain ⟨k1, k2, k3⟩ := (hK 0 W h0).1
 have HC := Lib.hid (hE lp J Jx M W 0 (fun k W1 h b hb => by have := hM b hb; have := (hK k W1 h).2; omega) hJ hJx (fun k W1 h => (hK k W1 h).1.2)
  (fun k W1 h _ y hy => by
   rw [Nat.sub_zero] at hy
   have := hY k W1 h (List.getElem?_eq_some_iff.1 hy).1
   have e := elN_at hy
   change YieldAt Fence.wide 0 Tryz.prog lp #[(elN rs k).val] W1 _ at this
   rw [e] at this
   exact this) h0)
 obtain ⟨e0, e1, e2, e3, e4, e5, ez, el⟩ := ncells k1
 unfold RN.val at HC
 clear hM hJ hJx hK hY h0 k1 k2 k3
 go_enter Tryz.func48, Tryz.ntmps48
 go_wp2_with (go_at_call 49; refine HC.out.mono ?_)
 rintro e W5 (⟨rfl, hj5⟩ | ⟨rfl, hj5⟩)
 · have HJ5 := Lib.hid hj5
   clear hj5
   go_wp2_with fail
   go_end0
   exact ⟨⟨_, rfl⟩, .inl (by have := HJ5.out; rwa [Nat.zero_add] at this)⟩
 · have HJ5 := Lib.hid hj5
   clear hj5
   go_wp2_with fail
   go_end0
   exact ⟨⟨_, rfl⟩, .inr HJ5.out⟩
theorem aEach (r : RN) (w : World) : Calls Tryz.prog 23 #[r.val] w fun e w' => e = .returned (.func (.func 48) #[] #[.pointer (some ⟨w.heap.size, 0, none⟩)]) ∧ w' = w.alloc (boxC r) := by
 unfold RN.val
 go_enter Tryz.func23, Tryz.ntmps23
 go_wp2_with fail
 go_ret
 exact ⟨rfl, rfl⟩
mutual
theorem each_mem_cost : ∀ (t : Tree) (x : Tree), x ∈ eachV t → costT x ≤ costT t
 | .mk k f e a n l => fun x hx => by
  rw [eachV] at hx
  split at hx
  · simp at hx
  · rcases List.mem_cons.1 hx with rfl | hx
    · exact Nat.le_refl _
    · have := eachL_mem_cost l x hx
      rw [costT]; omega
theorem eachL_mem_cost : ∀ (l : List Tree) (x : Tree), x ∈ eachL l → costT x ≤ costL l
 | [] => fun x hx => by simp [eachL] at hx
 | t :: l => fun x hx => by
  rw [eachL] at hx
  rw [costL]
  rcases List.mem_append.1 hx with hx | hx
  · have := each_mem_cost t x hx; omega
  · have := eachL_mem_cost l x hx; omega
end
theorem load_bool {w : World} {b : Nat} {v : Value} (h : w.heap[b]? = some (.cells #[v] 4 (0, 0))) : (loadVar 4 ⟨b, 0, none⟩).run Tryz.prog w = .ok v w := by
 have c0 := (cell1 h).1
 have ha := Tryz.isAgg4 w
 simp only [loadVar, Sem.run_bind, ha, Result.andThen_ok]
 show (Sem.run Tryz.prog (load ⟨b, 0, none⟩) w) = _
 rw [run_load, c0]
theorem end_cell {fn : Func} {p : Tmp} (hres : fn.results = #[.cell p 4]) {tmps : Array Value} {b D : Nat} {v : Value} {w : World} {R : Ending → World → Prop} (hp : tmps.getD p undef = .pointer (some ⟨b, 0, none⟩))
  (hb : w.heap[b]? = some (.cells #[v] 4 (0, 0))) (hd : w.heap[D]? = some (.deferred (some []))) (hR : R (.returned v) (w.putObj D (.deferred none))) :
  bodyPostM Fence.wide 0 Tryz.prog fn R .ret { tmps := tmps, defers := [{ target := .collected D, args := #[] }] } w := by
 have hne : b ≠ D := fun e => by rw [e, hd] at hb; cases hb
 refine ⟨by simp, .inl ⟨_, _, rfl, run_takeDeferred hd, ?_⟩⟩
 refine ⟨v, ?_, hR⟩
 have h1 : (w.putObj D (.deferred none)).heap[b]? = some (.cells #[v] 4 (0, 0)) := (World.putObj_heap_other hne).trans hb
 have hp' : tmps[p]?.getD undef = .pointer (some ⟨b, 0, none⟩) := by rw [← hp]; simp
 simp only [results, hres]
 simp [Sem.run_bind, Result.andThen, hp', asAddr, load_bool h1]
theorem KidsM_of {w W : World} {B : Nat} {t : Tree} {r : RN} (h : NodeM w B t r) (hk : ∀ p : Addr, p.block < B → W.cell? p = w.cell? p) (hB : B ≤ W.heap.size) : NodeM W W.heap.size t r := (h.keep hk).more hB
theorem aPlaced (size : Int) (t : Tree) (r : RN) (w : World) (hm : NodeM w w.heap.size t r) (hc : costT t ≤ 3000) :
  Calls Tryz.prog 26 #[r.val, .int .i64 size] w fun e w' => e = .returned (.bool (placedV size t)) ∧ Below w.heap.size w w' := by
 obtain ⟨rs, hrl, hE⟩ := aeach w w.heap.size t r hm hc
 have hEA := aEach r
 unfold RN.val at hEA ⊢
 refine (callsIn_wide (n := 0)).1 (callsIn_of_wp_marks Tryz.func26 rfl trivial ?_)
 simp only [Tryz.ntmps26, List.size_toArray, List.length_cons, List.length_nil, Nat.reduceAdd, Nat.reduceSub, Array.replicate_succ, Array.replicate_zero, List.push_toArray, List.append_toArray, List.nil_append, List.cons_append]
 gi_wp2_with (refine ⟨trivial, rfl, ?_⟩; first | (gi_at_call 23; refine (callsIn_wide.2 (hEA _)).mono ?_; rintro e w1 ⟨rfl, rfl⟩))
 apply wide_range3 (gf := 48) (lb := #[.pointer (some ⟨w.heap.size + 1 + 1 + 1, 0, none⟩)]) rfl (Go.Proofs.enters_of Tryz.func48 (by kernel_rfl) rfl)
  (each_hands hE (w.heap.size + 1 + 1 + 1))
  (fun k W => (∀ i x, i < k → (eachV t)[i]? = some x → tightV size x = true) ∧ KKe w w.heap.size (w.heap.size + 1 + 1 + 1) r W ∧ W.heap[w.heap.size + 1]? = some (.cells #[.int .i64 size] 3 (0, 0)) ∧ W.heap[w.heap.size + 1 + 1]? = some (.cells #[.bool false] 4 (0, 0)) ∧ Below w.heap.size w W)
  (fun c W => c = .ret ∧ placedV size t = false ∧ W.heap[w.heap.size + 1 + 1]? = some (.cells #[.bool false] 4 (0, 0)) ∧ Below w.heap.size w W)
  (fun b => b = w.heap.size + 1 + 1)
  (a₁ := fun k b => { tmps := #[.agg #[.int .i64 r.kind, .int .i64 r.fr, .int .i64 r.en, .int .i64 r.at_, .string r.name, .slice r.A r.n r.cap], .int .i64 size, .pointer (some ⟨w.heap.size, 0, none⟩), .pointer (some ⟨w.heap.size + 1, 0, none⟩), .pointer (some ⟨w.heap.size + 1 + 1, 0, none⟩), .pointer (some ⟨b, 0, none⟩),
   .agg #[.int .i64 r.kind, .int .i64 r.fr, .int .i64 r.en, .int .i64 r.at_, .string r.name, .slice r.A r.n r.cap], .func (.func 48) #[] #[.pointer (some ⟨w.heap.size + 1 + 1 + 1, 0, none⟩)], (elN rs k).val, undef, undef, undef, undef], defers := [] })
  (ob := fun k => boxC (elN rs k))
 case hMc => rintro b rfl; simp
 case hI =>
  rintro k W W' ⟨h1, ⟨h2, h3, h4⟩, h5, h6, h7⟩ hb
  simp only [World.size_alloc] at hb
  exact ⟨h1, ⟨(hb.block _ (by omega)).trans h2, fun p hp => (hb.cell (by omega)).trans (h3 p hp), Nat.le_trans h4 hb.size⟩, (hb.block _ (by omega)).trans h5, (hb.block _ (by omega)).trans h6, h7.trans (hb.mono (by omega))⟩
 case hIx =>
  rintro c W W' ⟨h1, h2, h3, h4⟩ hb
  simp only [World.size_alloc] at hb
  exact ⟨h1, h2, (hb.block _ (by omega)).trans h3, h4.trans (hb.mono (by omega))⟩
 case hKK => exact fun k W h => h.2.1
 case hassign =>
  intro lp k W K hK
  simp only [RN.val] at hK ⊢
  gi_wp2
  exact hK
 case hbody =>
  rintro lp k b W ⟨h1, ⟨h2, h3, h4⟩, h5, h6, h7⟩ hk hb hwb
  obtain ⟨x, hx⟩ : ∃ x, (eachV t)[k]? = some x := ⟨_, List.getElem?_eq_getElem (by rw [← hrl.1]; exact hk)⟩
  obtain ⟨y, hy⟩ : ∃ y, rs[k]? = some y := ⟨_, List.getElem?_eq_getElem hk⟩
  have hm2 := KidsM_of (hrl.2 k x y hx hy) h3 h4
  have HT := Lib.hid (aTight size x y W hm2 (Nat.le_trans (each_mem_cost t x (List.mem_of_getElem? hx)) hc))
  rw [elN_at hy] at hb ⊢
  unfold RN.val at HT ⊢
  obtain ⟨e0, e1, e2, e3, e4, e5, ez, el⟩ := ncells hb
  obtain ⟨g0, gz, gl⟩ := cell1 h6
  obtain ⟨f0, fz, fl⟩ := cell1 h5
  have H1 := Lib.hid h1
  have HKK := Lib.hid (show KKe w w.heap.size (w.heap.size + 1 + 1 + 1) r W from ⟨h2, h3, h4⟩)
  have H5 := Lib.hid h5
  have H6 := Lib.hid h6
  have H7 := Lib.hid h7
  have HX := Lib.hid hx
  clear h1 h2 h3 h4 h5 h6 h7 hm2 hb hx hy
  cases hq : tightV size x with
  | true =>
   rw [hq] at HT
   gi_wp2_with (refine ⟨trivial, rfl, ?_⟩; gi_at_call 52; refine (callsIn_wide.2 HT.out).mono ?_; rintro e w3 ⟨rfl, hb3⟩)
   refine ⟨.of_below hb3, fun i z hi hz => ?_, ⟨(hb3.block _ ?_).trans HKK.out.1, fun p hp => (hb3.cell ?_).trans (HKK.out.2.1 p hp), Nat.le_trans HKK.out.2.2 hb3.size⟩, nb_below H5.out hb3, nb_below H6.out hb3, H7.out.trans (hb3.mono ?_)⟩
   · rcases Nat.lt_or_ge i k with h | h
     · exact H1.out i z h hz
     · obtain rfl : i = k := by omega
       have := HX.out
       rw [hz] at this; cases this
       exact hq
   · exact (Array.getElem?_eq_some_iff.1 HKK.out.1).1
   · have := HKK.out.2.2; omega
   · exact HKK.out.2.2
  | false =>
   rw [hq] at HT
   have HV := Lib.hid (show placedV size t = false by
    rw [Bool.eq_false_iff]; intro ha
    have := List.all_eq_true.1 ha x (List.mem_of_getElem? HX.out)
    rw [hq] at this; cases this)
   gi_wp2_with (refine ⟨trivial, rfl, ?_⟩; gi_at_call 52; refine (callsIn_wide.2 HT.out).mono ?_; rintro e w3 ⟨rfl, hb3⟩; obtain ⟨q0, qz, ql⟩ := cell1 (nb_below H6.out hb3))
   exact ⟨(Kept.of_below hb3).trans (Kept.setCell _ _ _ _ rfl), rfl, HV.out, set_heap (nb_below H6.out hb3), (H7.out.trans (hb3.mono HKK.out.2.2)).setCell (p := ⟨w.heap.size + 1 + 1, 0, none⟩) (by simp; omega) _⟩
 case hdone =>
  rintro D W hD ⟨h1, ⟨h2, h3, h4⟩, h5, h6, h7⟩ hd
  obtain ⟨g0, gz, gl⟩ := cell1 h6
  simp only [World.size_alloc] at hD
  have HV := Lib.hid (show placedV size t = true from List.all_eq_true.2 fun x hx => by
   obtain ⟨i, hi, e⟩ := List.getElem_of_mem hx
   exact h1 i x (by rw [hrl.1]; exact hi) (by rw [List.getElem?_eq_getElem hi, e]))
  have HD := Lib.hid hd
  have H6 := Lib.hid h6
  have H7 := Lib.hid h7
  clear h1 h2 h3 h4 h5 h6 h7 hd hrl hE hEA hm
  gi_wp2
  have hne : D ≠ w.heap.size + 1 + 1 := by omega
  refine end_cell rfl rfl (b := w.heap.size + 1 + 1) (set_heap H6.out) ((set_other hne).trans HD.out) ?_
  exact ⟨ret_bool HV.out.symm, (H7.out.setCell (p := ⟨w.heap.size + 1 + 1, 0, none⟩) (by simp; omega) _).trans (below_putObj _ _ _ (by omega))⟩
 case hstop =>
  rintro D c W hD ⟨rfl, h1, h2, h3⟩ hd
  simp only [World.size_alloc] at hD
  have HV := Lib.hid h1
  have HD := Lib.hid hd
  have H6 := Lib.hid h2
  have H7 := Lib.hid h3
  clear h1 h2 h3 hd hrl hE hEA hm
  gi_wp2
  refine end_cell rfl rfl (b := w.heap.size + 1 + 1) H6.out HD.out ?_
  exact ⟨ret_bool HV.out.symm, H7.out.trans (below_putObj _ _ _ (by omega))⟩
 case h0 =>
  refine ⟨fun i x h => by omega, ⟨?_, fun p hp => ?_, ?_⟩, ?_, ?_, ?_⟩
  · have := heap_alloc_new (((w.alloc (boxC r)).alloc (.cells #[.int .i64 size] 3)).alloc (.cells #[.bool false] 4)) (boxC r)
    simp only [World.size_alloc] at this
    exact this
  · rw [World.cell?_alloc_lt _ _ _ (by simp; omega), World.cell?_alloc_lt _ _ _ (by simp; omega), World.cell?_alloc_lt _ _ _ (by simp; omega), World.cell?_alloc_lt _ _ _ hp]
  · simp; omega
  · refine nb_alloc (nb_alloc ?_)
    have := heap_alloc_new (w.alloc (boxC r)) (.cells #[.int .i64 size] 3)
    simp only [World.size_alloc] at this
    exact this
  · refine nb_alloc ?_
    have := heap_alloc_new ((w.alloc (boxC r)).alloc (.cells #[.int .i64 size] 3)) (.cells #[.bool false] 4)
    simp only [World.size_alloc] at this
    exact this
  · exact (((((Below.refl _ _).alloc (Nat.le_refl _) _).alloc (by simp) _).alloc (by simp; omega) _).alloc (by simp; omega) _)
end
theorem aAlike (r : RN) (A : Option Addr) (c : Nat) (w : World) : Calls Tryz.prog 28 #[r.val, (⟨r.kind, r.fr, r.en, r.at_, r.name, A, r.n, c⟩ : RN).val] w fun e w' => e = .returned (.bool true) ∧ Below w.heap.size w w' := by
 unfold RN.val
 go_enter Tryz.func28, Tryz.ntmps28
 go_wp2_with fail
 go_ret
 exact ⟨rfl, below2 _ _ _⟩
theorem NodeM.two {w w' : World} {B B' : Nat} {t : Tree} {r s : RN} (h : NodeM w B t r) (h' : NodeM w' B' t s) : ∃ A c, s = ⟨r.kind, r.fr, r.en, r.at_, r.name, A, r.n, c⟩ := by
 cases h; cases h'; exact ⟨_, _, rfl⟩
theorem NodeM.has {w : World} {B : Nat} {t : Tree} {r : RN} (h : NodeM w B t r) (fr to_ : Int) : hasV fr to_ t = (decide (r.kind ≠ 0) && decide (r.fr ≤ fr) && decide (to_ ≤ r.en)) := by
 unfold hasV; rw [h.kind, h.fr, h.en]
theorem cnt_snoc (fr to_ : Int) {l : List Tree} {q : Nat} {z : Tree} (h : l[q]? = some z) : (l.take (q + 1)).countP (hasV fr to_) = (l.take q).countP (hasV fr to_) + (if hasV fr to_ z then 1 else 0) := by
 rw [take_succ_at h, List.countP_append, List.countP_singleton]
theorem fst_snoc (fr to_ : Int) {l : List Tree} {q : Nat} {z y : Tree} (h : l[q]? = some z) (hf : (l.take (q + 1)).find? (hasV fr to_) = some y) : (l.take q).find? (hasV fr to_) = some y ∨ ((l.take q).countP (hasV fr to_) = 0 ∧ hasV fr to_ z = true ∧ y = z) := by
 rw [take_succ_at h, List.find?_append] at hf
 cases hq : (l.take q).find? (hasV fr to_) with
 | some x => rw [hq] at hf; exact .inl hf
 | none =>
  rw [hq] at hf
  refine .inr ⟨List.countP_eq_zero.2 (List.find?_eq_none.1 hq), ?_⟩
  simp only [Option.none_or, List.find?_singleton] at hf
  split at hf
  · exact ⟨by assumption, (Option.some.inj hf).symm⟩
  · cases hf
theorem box_keepC {w0 W' : World} {b b' o : Nat} {r r' : RN} (hx : w0.heap[b]? = some (boxC r)) (hb : b' < w0.heap.size)
  (hc : w0.cell? ⟨b', o, none⟩ = some (.int .i64 r'.kind) ∧ w0.cell? ⟨b', o + 1, none⟩ = some (.int .i64 r'.fr) ∧ w0.cell? ⟨b', o + 2, none⟩ = some (.int .i64 r'.en) ∧ w0.cell? ⟨b', o + 3, none⟩ = some (.int .i64 r'.at_) ∧ w0.cell? ⟨b', o + 4, none⟩ = some (.string r'.name) ∧ w0.cell? ⟨b', o + 5, none⟩ = some (.slice r'.A r'.n r'.cap)) (h : Below w0.heap.size w0 W') :
  zE w0 b r (fun w' => w'.cell? ⟨b', o, none⟩ = some (.int .i64 r'.kind) ∧ w'.cell? ⟨b', o + 1, none⟩ = some (.int .i64 r'.fr) ∧ w'.cell? ⟨b', o + 2, none⟩ = some (.int .i64 r'.en) ∧ w'.cell? ⟨b', o + 3, none⟩ = some (.int .i64 r'.at_) ∧ w'.cell? ⟨b', o + 4, none⟩ = some (.string r'.name) ∧ w'.cell? ⟨b', o + 5, none⟩ = some (.slice r'.A r'.n r'.cap)) W' := by
 obtain ⟨-, e0, e1, e2, e3, e4, e5⟩ := box_keep hx h
 obtain ⟨a0, a1, a2, a3, a4, a5⟩ := hc
 exact ⟨h, e0, e1, e2, e3, e4, e5, (h.cell hb).trans a0, (h.cell hb).trans a1, (h.cell hb).trans a2, (h.cell hb).trans a3, (h.cell hb).trans a4, (h.cell hb).trans a5⟩
theorem aAlike2 {w1 w2 : World} {B B' : Nat} {t : Tree} {r s : RN} (h : NodeM w1 B t r) (h' : NodeM w2 B' t s) (w : World) : Calls Tryz.prog 28 #[r.val, s.val] w fun e w' => e = .returned (.bool true) ∧ Below w.heap.size w w' := by
 obtain ⟨A, c, rfl⟩ := NodeM.two h h'
 exact aAlike r A c w
theorem path_head {fr to_ : Int} {t : Tree} (h : pathV fr to_ t ≠ []) : (pathV fr to_ t)[0]? = some t := by
 obtain ⟨k, f, e, a, n, l⟩ := t
 unfold pathV at h ⊢
 split
 · rename_i h0; rw [if_pos h0] at h; exact absurd rfl h
 · rfl
mutual
theorem path_mem (fr to_ : Int) : ∀ (t x : Tree), x ∈ pathV fr to_ t → costT x ≤ costT t
 | .mk k f e a n l, x, h => by
  rw [pathV] at h
  split at h
  · simp at h
  · rcases List.mem_cons.1 h with rfl | h
    · exact Nat.le_refl _
    · have := pathL_mem fr to_ l x h
      rw [costT]; omega
theorem pathL_mem (fr to_ : Int) : ∀ (l : List Tree) (x : Tree), x ∈ pathL fr to_ l → costT x ≤ costL l
 | [], x, h => by simp [pathL] at h
 | t :: l, x, h => by
  rw [pathL] at h; rw [costL]
  split at h
  · have := pathL_mem fr to_ l x h; omega
  · have := path_mem fr to_ t x h; omega
end
theorem kids_of {W0 W w1 : World} {B : Nat} {A : Option Addr} {L : List Tree} {rs : List RN} (h0 : B ≤ W0.heap.size) (hb1 : Below W.heap.size W w1) (hrow : RowOf RN.cells 6 w1 w1.heap.size A rs) (hrl : ReadL W B L rs) (hW : Below W0.heap.size W0 W := by repeat (first | exact zR _ | assumption | apply zA | apply zD | refine zT ?_ (by assumption))) : KidsM w1 w1.heap.size A L := by
 have h1 := hW.size
 have h2 := hb1.size
 exact ⟨rs, hrow, hrl.1, fun i x rx hx hrx => ((hrl.2 i x rx hx hrx).under hb1 (by omega)).more (by omega)⟩
theorem lawWays (fr to_ : Int) (t : Tree) (r : RN) (w : World) (hG : LexG w) (hm : NodeM w w.heap.size t r) (hf : fineT t) :
  Calls Tryz.prog 9 #[r.val, .int .i64 fr, .int .i64 to_] w fun e w' => e = .returned (.bool true) ∧ Below w.heap.size w w' := by
 obtain ⟨W0, hW0⟩ : ∃ W0, w.alloc (boxC r) = W0 := ⟨_, rfl⟩
 have HX := Lib.hid (heap_alloc_new w (boxC r))
 have HB := Lib.hid ((Below.refl w.heap.size w).alloc (Nat.le_refl _) (boxC r))
 rw [hW0] at HX HB
 have HM := Lib.hid (fun W (hb : Below W0.heap.size W0 W) => hm.under (below_then HB.out hb) (Nat.le_refl _))
 have HN := Lib.hid (fun W (hb : Below W0.heap.size W0 W) => hm.after (Nat.le_refl _) (below_then HB.out hb))
 have HW := Lib.hid (fun W (hb : Below W0.heap.size W0 W) => aWorks W ((hG.below HB.out).below hb))
 have HF := Lib.hid (fun W (hb : Below W0.heap.size W0 W) => aFew t r W (HN.out W hb) hf)
 have hcost : decide (0 < sizeV 3000 t) = true → costT t ≤ 3000 := fun h => few_cost (of_decide_eq_true h)
 generalize decide (0 < sizeV 3000 t) = d at *
 obtain ⟨-, e0, e1, e2, e3, e4, e5⟩ := box_keep HX.out (Below.refl _ _)
 cases d with
 | false =>
  clear hcost
  unfold RN.val at HF ⊢
  unfold boxC at hW0
  go_enter Tryz.func9, Tryz.ntmps9
  go_wp2_with (first | (go_at_call 11; go_must (refine (HF.out _ (Below.refl _ _)).mono ?_); rintro e wA ⟨rfl, hbA⟩) | (go_at_call 12; go_must (refine (HW.out _ hbA).mono ?_); rintro e wB ⟨rfl, hbB⟩))
  go_ret
  exact ⟨rfl, below_then HB.out (below_then hbA hbB)⟩
 | true =>
  have hc := hcost rfl
  clear hcost
  have HPA := Lib.hid (fun W (hb : Below W0.heap.size W0 W) => aPath fr to_ t r W w.heap.size (HM.out W hb) (below_then HB.out hb).size hc)
  have hpn := path_nil fr to_ t
  rw [← hm.kind, ← hm.fr, ← hm.en] at hpn
  by_cases hL : pathV fr to_ t = []
  · have hor := hpn.1 hL
    rw [hL] at HPA
    clear hG hm hf hc hpn hL
    unfold RN.val at HF HPA ⊢
    unfold boxC at hW0
    have hh : True := trivial
    by_cases h1 : r.kind = 0
    · have b1 : (r.kind == 0) = true := beq_iff_eq.2 h1
      clear h1 hor
      go_enter Tryz.func9, Tryz.ntmps9
      go_wp2_with (first | (go_at_call 12; go_must (refine (HW.out _ (below_then hbA hb1)).mono ?_); rintro e wB ⟨rfl, hbB⟩) | (go_at_call 20; refine (HPA.out _ hbA).mono ?_; rintro e w1 ⟨⟨A, cap, rs, rfl, hrow, hrl, hn⟩, hb1⟩; dsimp only [List.length_nil]; clear hrow hrl hn e0 e1 e2 e3 e4 e5; obtain ⟨-, e0, e1, e2, e3, e4, e5⟩ := box_keep HX.out (below_then hbA hb1)) | (go_at_call 11; go_must (refine (HF.out _ (Below.refl _ _)).mono ?_); rintro e wA ⟨rfl, hbA⟩; clear e0 e1 e2 e3 e4 e5; obtain ⟨-, e0, e1, e2, e3, e4, e5⟩ := box_keep HX.out hbA))
      go_ret
      exact ⟨rfl, below_then HB.out (below_then (below_then hbA hb1) hbB)⟩
    have b1 : (r.kind == 0) = false := beq_eq_false_iff_ne.2 h1
    by_cases h2 : fr < r.fr
    · clear hor h1
      go_enter Tryz.func9, Tryz.ntmps9
      go_wp2_with (first | (go_at_call 12; go_must (refine (HW.out _ (below_then hbA hb1)).mono ?_); rintro e wB ⟨rfl, hbB⟩) | (go_at_call 20; refine (HPA.out _ hbA).mono ?_; rintro e w1 ⟨⟨A, cap, rs, rfl, hrow, hrl, hn⟩, hb1⟩; dsimp only [List.length_nil]; clear hrow hrl hn e0 e1 e2 e3 e4 e5; obtain ⟨-, e0, e1, e2, e3, e4, e5⟩ := box_keep HX.out (below_then hbA hb1)) | (go_at_call 11; go_must (refine (HF.out _ (Below.refl _ _)).mono ?_); rintro e wA ⟨rfl, hbA⟩; clear e0 e1 e2 e3 e4 e5; obtain ⟨-, e0, e1, e2, e3, e4, e5⟩ := box_keep HX.out hbA))
      go_ret
      exact ⟨rfl, below_then HB.out (below_then (below_then hbA hb1) hbB)⟩
    by_cases h3 : r.en < to_
    · clear hor h1
      go_enter Tryz.func9, Tryz.ntmps9
      go_wp2_with (first | (go_at_call 12; go_must (refine (HW.out _ (below_then hbA hb1)).mono ?_); rintro e wB ⟨rfl, hbB⟩) | (go_at_call 20; refine (HPA.out _ hbA).mono ?_; rintro e w1 ⟨⟨A, cap, rs, rfl, hrow, hrl, hn⟩, hb1⟩; dsimp only [List.length_nil]; clear hrow hrl hn e0 e1 e2 e3 e4 e5; obtain ⟨-, e0, e1, e2, e3, e4, e5⟩ := box_keep HX.out (below_then hbA hb1)) | (go_at_call 11; go_must (refine (HF.out _ (Below.refl _ _)).mono ?_); rintro e wA ⟨rfl, hbA⟩; clear e0 e1 e2 e3 e4 e5; obtain ⟨-, e0, e1, e2, e3, e4, e5⟩ := box_keep HX.out hbA))
      go_ret
      exact ⟨rfl, below_then HB.out (below_then (below_then hbA hb1) hbB)⟩
    have h4 : to_ < fr := by omega
    clear hor h1
    go_enter Tryz.func9, Tryz.ntmps9
    go_wp2_with (first | (go_at_call 12; go_must (refine (HW.out _ (below_then hbA hb1)).mono ?_); rintro e wB ⟨rfl, hbB⟩) | (go_at_call 20; refine (HPA.out _ hbA).mono ?_; rintro e w1 ⟨⟨A, cap, rs, rfl, hrow, hrl, hn⟩, hb1⟩; dsimp only [List.length_nil]; clear hrow hrl hn e0 e1 e2 e3 e4 e5; obtain ⟨-, e0, e1, e2, e3, e4, e5⟩ := box_keep HX.out (below_then hbA hb1)) | (go_at_call 11; go_must (refine (HF.out _ (Below.refl _ _)).mono ?_); rintro e wA ⟨rfl, hbA⟩; clear e0 e1 e2 e3 e4 e5; obtain ⟨-, e0, e1, e2, e3, e4, e5⟩ := box_keep HX.out hbA))
    go_ret
    exact ⟨rfl, below_then HB.out (below_then (below_then hbA hb1) hbB)⟩
  · have hle : fr ≤ to_ := by
     by_cases h : to_ < fr
     · exact absurd (hpn.2 (.inr (.inr (.inr h)))) hL
     · omega
    have hlen := Nat.le_trans (path_cost fr to_ t) hc
    have HCH := Lib.hid (chain_at fr to_ _ (path_chain fr to_ hle t))
    have HCO := Lib.hid (fun x hx => Nat.le_trans (path_mem fr to_ t x hx) hc)
    have HONE := Lib.hid (fun (hlt : fr < to_) (hp : placedV t.en t = true) x hx => with_one fr to_ t.en hlt t x hp (path_each fr to_ t x hx))
    have HHD := Lib.hid (path_head hL)
    have HPL := Lib.hid (fun W (hb : Below W0.heap.size W0 W) => aPlaced t.en t r W (HN.out W hb) hc)
    rw [← hm.en] at HPL HONE
    have hpos : 0 < (pathV fr to_ t).length := List.length_pos_iff.2 hL
    generalize pathV fr to_ t = L at *
    clear hG hf hc hpn hL
    have HMM := Lib.hid hm
    clear hm
    have hb0 : ((L.length : Int) == 0) = false := beq_eq_false_iff_ne.2 (by omega)
    unfold RN.val at HF HPA HPL ⊢
    unfold boxC at hW0
    go_enter Tryz.func9, Tryz.ntmps9
    go_wp2_with (first | (go_at_call 20; refine (HPA.out _ hbA).mono ?_; rintro e w1 ⟨⟨A, cap, rs, rfl, hrow, hrl, hn⟩, hb1⟩; have HR := Lib.hid (kids_of HB.out.size hb1 hrow hrl); have HB1 := Lib.hid (below_then hbA hb1); clear hrow hrl hn e0 e1 e2 e3 e4 e5 hbA; obtain ⟨b, off, rt, rfl, hbb, hmt, c0, c1, c2, c3, c4, c5⟩ := HR.out.at HHD.out; clear hb1) | (go_at_call 11; go_must (refine (HF.out _ (Below.refl _ _)).mono ?_); rintro e wA ⟨rfl, hbA⟩; clear e0 e1 e2 e3 e4 e5; obtain ⟨-, e0, e1, e2, e3, e4, e5⟩ := box_keep HX.out hbA))
    simp only [Nat.zero_mul, Nat.add_zero] at c0 c1 c2 c3 c4 c5
    have HAL := Lib.hid (fun W => aAlike2 hmt HMM.out W)
    have HX1 := Lib.hid (nb_below HX.out HB1.out)
    have HC1 := Lib.hid (And.intro c0 (And.intro c1 (And.intro c2 (And.intro c3 (And.intro c4 c5)))))
    have HLT := Lib.hid hbb
    have hsz1 := HB1.out.size
    unfold RN.val at HAL
    clear c0 c1 c2 c3 c4 c5 hmt
    have HKP := Lib.hid (fun W' (hBW : Below w1.heap.size w1 W') => (show (zE w1 w.heap.size r (fun w' => w'.cell? ⟨b, off, none⟩ = some (.int .i64 rt.kind) ∧ w'.cell? ⟨b, off + 1, none⟩ = some (.int .i64 rt.fr) ∧ w'.cell? ⟨b, off + 2, none⟩ = some (.int .i64 rt.en) ∧ w'.cell? ⟨b, off + 3, none⟩ = some (.int .i64 rt.at_) ∧ w'.cell? ⟨b, off + 4, none⟩ = some (.string rt.name) ∧ w'.cell? ⟨b, off + 5, none⟩ = some (.slice rt.A rt.n rt.cap))) W' from by exact box_keepC HX1.out HLT.out HC1.out hBW))
    refine zHD HKP fun hHeld => ?_
    refine zTk 0 (h := ?_)
    refine zTk 1 (h := ?_)
    refine zTk 2 (h := ?_)
    refine zTk 3 (h := ?_)
    refine zRd 4 (h := fun KK hKK => ?_)
    go_simp
    (refine (HAL.out _).mono ?_; rintro e w2 ⟨rfl, hb2⟩)
    (try go_wp2_with fail)
    refine zKK hKK HKP fun hHeld2 => ?_; clear hKK KK hHeld; rename _ => hHeld
    refine zTk 5 (h := ?_)
    refine wpAnyH_done (by kernel_rfl) ?_ _
    have HE := Lib.hid hHeld.1
    clear hHeld
    clear hb2 hbb
    have HR2 := Lib.hid (HR.out.after (Nat.le_refl _) HE.out)
    have HE2 := Lib.hid (below_then HB1.out HE.out)
    go_wp2_with fail
    go_loopw [8] (fun i wr => ∃ j : Nat, j ≤ L.length ∧ i = .int .i64 j ∧ Below w2.heap.size w2 wr) (fun i _ => L.length - (intOf i).toNat)
    case atStart => exact ⟨0, Nat.zero_le _, rfl, Below.refl _ _⟩
    case round =>
     obtain ⟨j, hj, rfl, hb⟩ := hrel
     have HBR := Lib.hid hb
     have hszr := hb.size
     clear hb
     by_cases hlt : j < L.length
     · obtain ⟨x, hx⟩ : ∃ x, L[j]? = some x := ⟨_, List.getElem?_eq_getElem hlt⟩
       obtain ⟨b', off', rx, hbe, hbx, hmx, c0, c1, c2, c3, c4, c5⟩ := (HR2.out.later HBR.out (Nat.le_refl _)).at hx
       injection hbe with hbe
       injection hbe with hbe1 hbe2
       subst hbe1 hbe2
       obtain ⟨hhas, hlast, hnext⟩ := HCH.out j x hx
       have hxc := HCO.out x (List.mem_of_getElem? hx)
       have hone := HONE.out
       replace hone := fun h1 h2 => hone h1 h2 x (List.mem_of_getElem? hx)
       rw [hmx.has] at hhas
       simp only [Bool.and_eq_true, decide_eq_true_eq] at hhas
       have HHAS := Lib.hid hhas
       have hf1 := hhas.1.2
       have hf2 := hhas.2
       obtain ⟨xk, xf, xe, xa, xn, xl⟩ := x
       obtain ⟨Ax, capx, rfl, hkx⟩ := hmx.open2
       have hxl := kids_few hxc
       have HKX := Lib.hid hkx
       have HLAST := Lib.hid hlast
       have HNEXT := Lib.hid hnext
       have HON := Lib.hid (show fr < to_ → placedV r.en t = true → xl.countP (hasV fr to_) ≤ 1 from hone)
       clear hmx hkx hhas hlast hnext hone hx hxc
       dsimp only at c0 c1 c2 c3 c4 c5 hf1 hf2
       have HC := Lib.hid (And.intro c0 (And.intro c1 (And.intro c2 (And.intro c3 (And.intro c4 c5)))))
       go_wp2_with fail
       obtain ⟨wo, hwo⟩ : ∃ wo, wo = wr := ⟨_, rfl⟩
       subst hwo
       have hbl : b < wo.heap.size := by have := HLT.out; have := HE.out.size; omega
       have HX2 := Lib.hid (nb_below HX1.out (zT HE.out HBR.out))
       clear c0 c1 c2 c3 c4
       have HC5 := Lib.hid c5
       clear c5
       go_loopw [9, 11] (fun cv kv wr => ∃ (q : Nat) (rf : RN), q ≤ xl.length ∧ cv = .int .i64 (((xl.take q).countP (hasV fr to_) : Nat) : Int) ∧ kv = .int .i64 q ∧ wr.heap[wo.heap.size]? = some (boxC rf) ∧ (∀ y, (xl.take q).find? (hasV fr to_) = some y → NodeM w2 w2.heap.size y rf) ∧ Below wo.heap.size wo wr) (fun _ kv _ => xl.length - (intOf kv).toNat)
       case atStart => exact ⟨0, ⟨0, 0, 0, 0, ⟨#[]⟩, none, 0, 0⟩, Nat.zero_le _, rfl, rfl, heap_alloc_new _ _, fun y h => by simp at h, zA (zR _)⟩
       case round =>
        obtain ⟨q, rf, hq, rfl, rfl, hfb, hfy, hbw⟩ := hrel
        have hcq : (xl.take q).countP (hasV fr to_) ≤ 3000 := Nat.le_trans List.countP_le_length (by rw [List.length_take]; omega)
        obtain ⟨cnt, hcnt⟩ : ∃ cnt, (xl.take q).countP (hasV fr to_) = cnt := ⟨_, rfl⟩
        rw [hcnt] at hcq ⊢
        have HCN := Lib.hid hcnt
        have HFB := Lib.hid hfb
        have HFY := Lib.hid hfy
        have HBW := Lib.hid hbw
        have hszs := hbw.size
        clear hcnt hfb hfy hbw
        have c5 := (HBW.out.cell (p := ⟨b, off + j * 6 + 5, none⟩) hbl).trans HC5.out
        by_cases hltq : q < xl.length
        · obtain ⟨z, hz⟩ : ∃ z, xl[q]? = some z := ⟨_, List.getElem?_eq_getElem hltq⟩
          obtain ⟨bz, offz, rz, rfl, hbz, hmz, z0, z1, z2, z3, z4, z5⟩ := (HKX.out.later HBW.out (by omega)).at hz
          have hmz2 : NodeM w2 w2.heap.size z rz := by
           obtain ⟨bz', offz', rz', he', _, hmz', y0, y1, y2, y3, y4, y5⟩ := HKX.out.at hz
           have hA : bz = bz' ∧ offz = offz' := by injection he' with he'; injection he' with h1 h2; exact ⟨h1, h2⟩
           obtain ⟨rfl, rfl⟩ := hA
           have hu : ∀ (k : Nat), wr.cell? ⟨bz, k, none⟩ = wo.cell? ⟨bz, k, none⟩ := fun k => HBW.out.cell (by show bz < wo.heap.size; omega)
           rw [hu] at z0 z1 z2 z3 z4 z5
           have : rz = rz' := by
            have a0 := z0.symm.trans y0
            have a1 := z1.symm.trans y1
            have a2 := z2.symm.trans y2
            have a3 := z3.symm.trans y3
            have a4 := z4.symm.trans y4
            have a5 := z5.symm.trans y5
            obtain ⟨k1, k2, k3, k4, k5, k6, k7, k8⟩ := rz
            obtain ⟨m1, m2, m3, m4, m5, m6, m7, m8⟩ := rz'
            simp only [Option.some.injEq, Value.int.injEq, Value.string.injEq, Value.slice.injEq, true_and] at a0 a1 a2 a3 a4 a5
            obtain ⟨a6, a7, a8⟩ := a5
            subst a0 a1 a2 a3 a4 a6 a7 a8
            rfl
           rw [this]
           exact hmz'.keep fun p hp => (HBR.out.cell hp).symm
          have HMZ := Lib.hid hmz2
          have hbz1 : bz < wr.heap.size := by omega
          have hhz := hmz2.has fr to_
          have HS := Lib.hid (cnt_snoc fr to_ hz)
          have HF1 := Lib.hid (fun y => fst_snoc (y := y) fr to_ hz)
          obtain ⟨g0, g1, g2, g3, g4, g5, gz, gl⟩ := ncells HFB.out
          clear hmz hmz2 hz
          generalize hasV fr to_ z = hv at *
          by_cases k0 : rz.kind = 0
          · have b0 : (rz.kind == 0) = true := beq_iff_eq.2 k0
            have HHZ := Lib.hid (show hv = false by rw [hhz]; simp [k0])
            have HNW := Lib.hid (show (xl.take (q + 1)).countP (hasV fr to_) = cnt by rw [HS.out, HCN.out, HHZ.out]; rfl)
            clear hhz
            go_wp2_with fail
            go_roundw
            case rel => exact ⟨q + 1, rf, by omega, by rw [HNW.out], by go_num, nb_alloc HFB.out, fun y hy => (HF1.out y hy).elim (fun h => HFY.out y h) (fun h => by rw [HHZ.out] at h; cases h.2.1), zA HBW.out⟩
            case measure => simp only [intOf]; omega
          have b0 : (rz.kind == 0) = false := beq_eq_false_iff_ne.2 k0
          by_cases k1 : rz.fr ≤ fr
          · by_cases k2 : to_ ≤ rz.en
            · have HHZ := Lib.hid (show hv = true by rw [hhz]; simp [k0, k1, k2])
              have HNW := Lib.hid (show (xl.take (q + 1)).countP (hasV fr to_) = cnt + 1 by rw [HS.out, HCN.out, HHZ.out]; rfl)
              clear hhz
              by_cases k3 : cnt = 0
              · have b3 : ((cnt : Int) == 0) = true := beq_iff_eq.2 (by omega)
                go_wp2_with fail
                go_roundw
                case rel => exact ⟨q + 1, rz, by omega, by rw [HNW.out]; go_num, by go_num, nb_alloc (six_set HFB.out), fun y hy => (HF1.out y hy).elim (fun h => by
                 have h1 := List.countP_eq_zero.1 (HCN.out.trans k3)
                 rw [List.find?_eq_none.2 h1] at h
                 cases h) (fun h => by rw [h.2.2]; exact HMZ.out), zA (six_below HBW.out (Nat.le_refl _))⟩
                case measure => simp only [intOf]; omega
              · have b3 : ((cnt : Int) == 0) = false := beq_eq_false_iff_ne.2 (by omega)
                go_wp2_with fail
                go_roundw
                case rel => exact ⟨q + 1, rf, by omega, by rw [HNW.out]; go_num, by go_num, nb_alloc HFB.out, fun y hy => (HF1.out y hy).elim (fun h => HFY.out y h) (fun h => absurd (HCN.out.symm.trans h.1) k3), zA HBW.out⟩
                case measure => simp only [intOf]; omega
            · have HHZ := Lib.hid (show hv = false by rw [hhz]; simp [k2])
              have HNW := Lib.hid (show (xl.take (q + 1)).countP (hasV fr to_) = cnt by rw [HS.out, HCN.out, HHZ.out]; rfl)
              clear hhz
              go_wp2_with fail
              go_roundw
              case rel => exact ⟨q + 1, rf, by omega, by rw [HNW.out], by go_num, nb_alloc HFB.out, fun y hy => (HF1.out y hy).elim (fun h => HFY.out y h) (fun h => by rw [HHZ.out] at h; cases h.2.1), zA HBW.out⟩
              case measure => simp only [intOf]; omega
          · have HHZ := Lib.hid (show hv = false by rw [hhz]; simp [k1])
            have HNW := Lib.hid (show (xl.take (q + 1)).countP (hasV fr to_) = cnt by rw [HS.out, HCN.out, HHZ.out]; rfl)
            clear hhz
            go_wp2_with fail
            go_roundw
            case rel => exact ⟨q + 1, rf, by omega, by rw [HNW.out], by go_num, nb_alloc HFB.out, fun y hy => (HF1.out y hy).elim (fun h => HFY.out y h) (fun h => by rw [HHZ.out] at h; cases h.2.1), zA HBW.out⟩
            case measure => simp only [intOf]; omega
        · have hqe : q = xl.length := by omega
          have hfin : xl.countP (hasV fr to_) = cnt := by have := HCN.out; rwa [hqe, List.take_length] at this
          have HFF := Lib.hid (show ∀ y, xl.find? (hasV fr to_) = some y → NodeM w2 w2.heap.size y rf by
           have := HFY.out
           rwa [hqe, List.take_length] at this)
          have HXS := Lib.hid (nb_below HX2.out HBW.out)
          have HBS := Lib.hid (zT (zT HE2.out HBR.out) HBW.out)
          have hxb := box_keep HXS.out (zR _)
          by_cases hl1 : j + 1 = L.length
          · have hz0 : cnt = 0 := by
             have h := HLAST.out hl1
             have h2 := (with_zero fr to_ (.mk xk xf xe xa xn xl)).2 h
             exact hfin.symm.trans h2
            obtain ⟨j1, hje⟩ : ∃ j1, j + 1 = j1 := ⟨_, rfl⟩
            have hji : (j : Int) + 1 = (j1 : Int) := by omega
            have hwr : IntKind.i64.wrap (j1 : Int) = (j1 : Int) := by rw [IntKind.wrap_i64]; omega
            have hj1 : ((j1 : Int) == (L.length : Int)) = true := beq_iff_eq.2 (by omega)
            have hc0 : ((cnt : Int) == 0) = true := beq_iff_eq.2 (by omega)
            have hc1 : ¬ (0 : Int) < (cnt : Int) := by omega
            have hc1n : ¬ 0 < cnt := by omega
            have hc2n : ¬ 1 < cnt := by omega
            have hc2 : ¬ (1 : Int) < (cnt : Int) := by omega
            have hlL : L.length ≤ 3000 := hlen
            clear hfin hz0 hl1 hje
            go_wp2_with fail
            have HKP := Lib.hid (fun W' (hBW : Below wr.heap.size wr W') => (show (zS wr w.heap.size r) W' from by exact box_keep HXS.out hBW))
            refine zHD HKP fun hHeld => ?_
            refine zTk 0 (h := ?_)
            refine zTk 1 (h := ?_)
            refine zTk 2 (h := ?_)
            refine zTk 3 (h := ?_)
            refine zTk 4 (h := ?_)
            refine zTk 5 (h := ?_)
            refine zTk 6 (h := ?_)
            refine zTk 7 (h := ?_)
            refine zTk 8 (h := ?_)
            refine zTk 9 (h := ?_)
            refine zTk 10 (h := ?_)
            refine zTk 11 (h := ?_)
            refine zTn 12 (h := ?_)
            refine zTn 13 (h := ?_)
            refine zTn 14 (h := ?_)
            refine zTn 15 (h := ?_)
            refine zTn 16 (h := ?_)
            refine zTn 17 (h := ?_)
            refine zTn 18 (h := ?_)
            refine zTn 19 (h := ?_)
            refine zTk 20 (h := ?_)
            refine zTk 21 (h := ?_)
            refine wpAnyH_done (by kernel_rfl) ?_ _
            have HE3 := Lib.hid hHeld.1
            clear hHeld
            clear hxb c5
            obtain ⟨-, e0, e1, e2, e3, e4, e5⟩ := box_keep HXS.out HE3.out
            go_wp2_with fail
            go_roundw
            case rel => exact ⟨j + 1, by omega, by go_num, zT (zT HBR.out HBW.out) HE3.out⟩
            case measure => simp only [intOf]; omega
          · obtain ⟨y, hy⟩ : ∃ y, L[j + 1]? = some y := ⟨_, List.getElem?_eq_getElem (by omega)⟩
            have hfy2 : xl.find? (hasV fr to_) = some y := HNEXT.out y hy
            have hyr := HFF.out y hfy2
            have hz0 : ¬ cnt = 0 := by
             intro h
             have h1 := List.countP_eq_zero.1 (hfin.trans h)
             rw [List.find?_eq_none.2 h1] at hfy2
             cases hfy2
            have hj1 : ((j : Int) + 1 == (L.length : Int)) = false := beq_eq_false_iff_ne.2 (by omega)
            have hc0 : ((cnt : Int) == 0) = false := beq_eq_false_iff_ne.2 (by omega)
            have hc1 : (0 : Int) < (cnt : Int) := by omega
            have hc1n : 0 < cnt := by omega
            obtain ⟨j1, hje⟩ : ∃ j1, j + 1 = j1 := ⟨_, rfl⟩
            obtain ⟨by_, offy, ry, hbe, hby, hmy, y0, y1, y2, y3, y4, y5⟩ := (HR2.out.later (zT HBR.out HBW.out) (Nat.le_refl _)).at hy
            injection hbe with hbe
            injection hbe with hbe1 hbe2
            subst hbe1 hbe2
            rw [hje] at y0 y1 y2 y3 y4 y5
            have hji : (j : Int) + 1 = (j1 : Int) := by omega
            have hjl : j1 < L.length := by omega
            have hwr : IntKind.i64.wrap (j1 : Int) = (j1 : Int) := by rw [IntKind.wrap_i64]; omega
            have hj2 : ((j1 : Int) == (L.length : Int)) = false := beq_eq_false_iff_ne.2 (by omega)
            have HAL3 := Lib.hid (fun W => aAlike2 hyr hmy W)
            have HCY := Lib.hid (And.intro y0 (And.intro y1 (And.intro y2 (And.intro y3 (And.intro y4 y5)))))
            have hbw2 : b < wr.heap.size := by omega
            unfold RN.val at HAL3
            clear hmy hyr hfy2 hy y0 y1 y2 y3 y4 y5 hje
            go_wp2_with fail
            have HKP := Lib.hid (fun W' (hBW : Below wr.heap.size wr W') => (show (zE wr wo.heap.size rf (fun w' => w'.cell? ⟨b, off + j1 * 6, none⟩ = some (.int .i64 ry.kind) ∧ w'.cell? ⟨b, off + j1 * 6 + 1, none⟩ = some (.int .i64 ry.fr) ∧ w'.cell? ⟨b, off + j1 * 6 + 2, none⟩ = some (.int .i64 ry.en) ∧ w'.cell? ⟨b, off + j1 * 6 + 3, none⟩ = some (.int .i64 ry.at_) ∧ w'.cell? ⟨b, off + j1 * 6 + 4, none⟩ = some (.string ry.name) ∧ w'.cell? ⟨b, off + j1 * 6 + 5, none⟩ = some (.slice ry.A ry.n ry.cap))) W' from by exact box_keepC HFB.out hbw2 HCY.out hBW))
            refine zHD HKP fun hHeld => ?_
            refine zTk 0 (h := ?_)
            refine zTk 1 (h := ?_)
            refine zTk 2 (h := ?_)
            refine zTk 3 (h := ?_)
            refine zTk 4 (h := ?_)
            refine zTk 5 (h := ?_)
            refine zTk 6 (h := ?_)
            refine zTk 7 (h := ?_)
            refine zTk 8 (h := ?_)
            refine zTk 9 (h := ?_)
            refine zTk 10 (h := ?_)
            refine zTk 11 (h := ?_)
            refine zTk 12 (h := ?_)
            refine zTk 13 (h := ?_)
            refine zTk 14 (h := ?_)
            refine zTk 15 (h := ?_)
            refine zTk 16 (h := ?_)
            refine zTk 17 (h := ?_)
            refine zRd 18 (h := fun KK hKK => ?_)
            go_simp
            (refine (HAL3.out _).mono ?_; rintro e w3 ⟨rfl, hb3⟩)
            (try go_wp2_with fail)
            refine zKK hKK HKP fun hHeld2 => ?_; clear hKK KK hHeld; rename _ => hHeld
            refine zTk 19 (h := ?_)
            refine zTk 20 (h := ?_)
            refine zTk 21 (h := ?_)
            refine wpAnyH_done (by kernel_rfl) ?_ _
            have HE3 := Lib.hid hHeld.1
            clear hHeld
            clear hxb hb3 c5
            obtain ⟨-, e0, e1, e2, e3, e4, e5⟩ := box_keep HXS.out HE3.out
            by_cases hw1 : 1 < cnt
            · have hw2 : (1 : Int) < (cnt : Int) := by omega
              by_cases hft : fr < to_
              · have hpf : placedV r.en t = false := by
                 cases h : placedV r.en t with
                 | false => rfl
                 | true => exact absurd (HON.out hft h) (by omega)
                have HPF := Lib.hid (fun W hb => HPL.out W hb)
                rw [hpf] at HPF
                clear hfin hpf
                go_wp2_with (go_at_call 26; refine (HPF.out _ (zT HBS.out HE3.out)).mono ?_; rintro e w5 ⟨rfl, hb5⟩)
                go_roundw
                case rel => exact ⟨j + 1, by omega, by go_num, zT (zT (zT HBR.out HBW.out) HE3.out) hb5⟩
                case measure => simp only [intOf]; omega
              · clear hfin
                go_wp2_with fail
                go_roundw
                case rel => exact ⟨j + 1, by omega, by go_num, zT (zT HBR.out HBW.out) HE3.out⟩
                case measure => simp only [intOf]; omega
            · have hw2 : ¬ (1 : Int) < (cnt : Int) := by omega
              clear hfin
              go_wp2_with fail
              go_roundw
              case rel => exact ⟨j + 1, by omega, by go_num, zT (zT HBR.out HBW.out) HE3.out⟩
              case measure => simp only [intOf]; omega
     · go_wp2_with (go_at_call 12; refine (HW.out _ (zT HE2.out HBR.out)).mono ?_; rintro e wB ⟨rfl, hbB⟩)
       go_ret
       exact ⟨rfl, below_then HB.out (zT (zT HE2.out HBR.out) hbB)⟩
end Go.Proofs.YtacdfjlncfidgaaGreatDoor
