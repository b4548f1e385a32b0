/- What this law leans on beside the rest. -/
import Derived.WalkKit
import Derived.Outline
import Derived.Lib.Hide
import Derived.WalkLawsBesides
import Derived.WalkSpells
import Derived.Deep.AppendLies
import Derived.Deep.Draws
import Derived.Laws.OwnMore
import Derived.Maps.AppendAt
import Derived.OwnWalk
import Derived.Deep.QuietTactic
import Derived.BigQuiet
import Derived.OrdersIn
import Derived.TacticsIn
import Derived.RangeFuncOwn
import Derived.RangeFuncCalls
import Derived.RangeFuncLeaves
import Derived.Deep.RegionHeld3
import Derived.BigRegion
import Derived.OwnWalkIn
import Derived.LoopIn
import Derived.Test.YtacdfjlncfidgaaGreatDoorQA
import Derived.Test.YtacdfjlncfidgaaGreatDoorRA
import Derived.Test.YtacdfjlncfidgaaGreatDoorTF
import Derived.Test.YtacdfjlncfidgaaGreatDoorQB
import Derived.Test.YtacdfjlncfidgaaGreatDoorTB
import Derived.Test.YtacdfjlncfidgaaGreatDoorRB
import Derived.Test.YtacdfjlncfidgaaGreatDoorTD
import Derived.Test.YtacdfjlncfidgaaGreatDoorRE
import Derived.Test.YtacdfjlncfidgaaGreatDoorTO
import Derived.Test.YtacdfjlncfidgaaGreatDoorTE
import Derived.Test.YtacdfjlncfidgaaGreatDoorRQ
import Derived.Test.YtacdfjlncfidgaaGreatDoorRF
namespace Go.Proofs.YtacdfjlncfidgaaGreatDoor
open Go.RowKit
set_option linter.unusedVariables false
set_option linter.unusedSimpArgs false
set_option maxRecDepth 100000
set_option maxHeartbeats 6400000
section
variable {P : Program} {α : Type} {cs : α → List Value} {sz : Nat}
theorem below_grown {B : Nat} {w0 W w' : World} {e : TypeId} {v : Value} {l : List α} (hb : Below B w0 W) (hown : Own cs sz e W B v l) (hB : B ≤ W.heap.size) (hg : W.grownBy w' v.ownBlock) : Below B w0 w' :=
 hb.grown hg hB fun k hk => (hown.lt k hk).1
end
theorem get_some {α : Type} {l : List α} {k : Nat} (h : k < l.length) : ∃ x, l[k]? = some x := ⟨l[k], List.getElem?_eq_getElem h⟩
mutual
def eachV : Tree → List Tree
 | .mk k f t a n l => if k = 0 then [] else .mk k f t a n l :: eachL l
def eachL : List Tree → List Tree
 | [] => []
 | t :: l => eachV t ++ eachL l
end
def tightL (to_ : Int) : Int → List Tree → Bool
 | _, [] => true
 | last, k :: l => if k.kind = 0 then tightL to_ last l else decide (last ≤ k.fr) && decide (k.en ≤ to_) && tightL to_ (max last k.en) l
def tightV (size : Int) (n : Tree) : Bool := decide (0 ≤ n.fr) && decide (n.fr ≤ n.at_) && decide (n.at_ ≤ n.en) && decide (n.en ≤ size) && tightL n.en n.fr n.kids
def placedV (size : Int) (t : Tree) : Bool := (eachV t).all (tightV size)
def aheadR (x : Int) : List Tree → Bool
 | [] => true
 | k :: l => (decide (k.kind = 0) || decide (k.en ≤ x)) && aheadR x l
mutual
def placedR (size : Int) : Tree → Bool
 | .mk k f t a n l => if k = 0 then true else decide (0 ≤ f) && decide (f ≤ a) && decide (a ≤ t) && decide (t ≤ size) && placedRL size f t [] l
def placedRL (size : Int) (f t : Int) (before : List Tree) : List Tree → Bool
 | [] => true
 | k :: l => (if k.kind = 0 then true else decide (f ≤ k.fr) && decide (k.en ≤ t) && placedR size k && aheadR k.fr before) && placedRL size f t (before ++ [k]) l
end
theorem aheadR_app (x : Int) : ∀ (a b : List Tree), aheadR x (a ++ b) = (aheadR x a && aheadR x b)
 | [], b => by simp [aheadR]
 | k :: a, b => by simp [aheadR, aheadR_app x a b, Bool.and_assoc]
mutual
theorem placed_eq (size : Int) : ∀ t : Tree, placedR size t = placedV size t
 | .mk k f t a n l => by
  unfold placedR placedV eachV
  by_cases h : k = 0
  · simp [h]
  · rw [if_neg h, if_neg h, List.all_cons]
    have := placedL_eq size t l f f [] (fun x => by simp [aheadR]) (by omega)
    rw [this]
    simp only [tightV, Tree.fr, Tree.en, Tree.at_, Tree.kids, Bool.and_assoc] <;> rfl
theorem placedL_eq (size t : Int) : ∀ (l : List Tree) (f last : Int) (before : List Tree), (∀ x, (decide (f ≤ x) && aheadR x before) = decide (last ≤ x)) → f ≤ last →
  placedRL size f t before l = (tightL t last l && (eachL l).all (tightV size))
 | [], f, last, before, _, _ => by simp [placedRL, tightL, eachL]
 | k :: l, f, last, before, h, hl => by
  unfold placedRL tightL eachL
  by_cases h0 : k.kind = 0
  · rw [if_pos h0, if_pos h0]
    have he : eachV k = [] := by cases k; unfold eachV; exact if_pos h0
    rw [he, List.nil_append, placedL_eq size t l f last (before ++ [k]) (fun x => by rw [aheadR_app]; simp [aheadR, h0]; exact h x) hl]
    simp
  · rw [if_neg h0, if_neg h0, List.all_append]
    have hk := placed_eq size k
    unfold placedV at hk
    have hx := h k.fr
    rw [placedL_eq size t l f (max last k.en) (before ++ [k]) (fun x => by
     have e : aheadR x [k] = decide (k.en ≤ x) := by show ((decide (k.kind = 0) || decide (k.en ≤ x)) && true) = _; rw [decide_eq_false h0, Bool.false_or, Bool.and_true]
     rw [aheadR_app, ← Bool.and_assoc, h x, e, Bool.eq_iff_iff, Bool.and_eq_true, decide_eq_true_eq, decide_eq_true_eq, decide_eq_true_eq]; omega) (by omega), hk]
    cases h1 : decide (last ≤ k.fr) with
    | false =>
     rw [h1] at hx
     cases h2 : decide (f ≤ k.fr) with
     | false => simp
     | true => rw [h2] at hx; simp at hx; simp [hx]
    | true =>
     rw [h1] at hx
     simp only [Bool.and_eq_true] at hx
     rw [hx.1, hx.2]
     simp only [Bool.true_and, Bool.and_true]
     cases decide (k.en ≤ t) <;> cases tightL t (max last k.en) l <;> cases (eachV k).all (tightV size) <;> simp
end
def zF (ro : Option Nat) : Fence := { Fence.wide with round := ro }
theorem rows_zF {P : Program} {row : String} {args : Array Value} {w : World} {ro : Option Nat} {R : Value → World → Prop} (h : Rows P row args w R) : RowsIn (zF ro) 0 P row args w R :=
 fun c cs _ => let ⟨v, w', r, s⟩ := h c cs; ⟨v, w', r, stepsIn_wide.2 s⟩
theorem oper_zF {P : Program} {o : Oper} {a : Act} {w : World} {K K' : Act → World → Prop} {Q : Exit → Act → World → Prop} {ro : Option Nat} (hd : ∀ c, o.op ≠ .defer c) (hK : ∀ a w, K a w → K' a w) (h : o.wp P a w K Q) : o.wpIn (zF ro) 0 P a w K' Q := by
 unfold Oper.wp at h
 unfold Oper.wpIn
 refine ⟨fun _ _ => trivial, ?_⟩
 rw [show (zF ro).round = ro from rfl, Oper.semAt_eq _ _ _ hd]
 generalize (execOp a.eval o).run P w = r at *
 cases r with
 | ok x w' =>
  cases x with
  | value v => exact hK _ _ h
  | skip => exact hK _ _ h
  | defer d => exact hK _ _ h
  | enter f args =>
   refine ⟨fun hh => by simp [zF, Fence.wide] at hh, ?_⟩
   refine (callsIn_wide (n := 0)).2 (Calls.mono h ?_)
   intro e w'' he
   cases e with
   | returned v => exact hK _ _ he
   | panicked c => exact he
   | outgrown => exact he
  | row row args => exact ⟨fun hh => by simp [zF, Fence.wide] at hh, rows_zF (Rows.mono h (fun v w'' he => hK _ _ he))⟩
  | _ => exact h.elim
 | halt x w' =>
  cases x with
  | panic v => exact h
  | _ => exact h.elim
def noDefer (o : Oper) : Bool := match o.op with | .defer _ => false | _ => true
theorem noDefer_spec {o : Oper} (h : noDefer o = true) : ∀ c, o.op ≠ .defer c := fun c e => by unfold noDefer at h; rw [e] at h; cases h
section
variable {P : Program} {ops : Array Oper} {Q : Exit → Act → World → Prop} {md : Region.Mode} {S : World → Prop} {a : Act} {w : World} {ro : Option Nat}
theorem any_zF (hd : ops.all noDefer = true) (hL : ¬ LetsOut Q) : ∀ (fuel : Nat) (listed : Array Bool) (a : Act) (w : World), wpAny P md ops Q fuel listed a w → wpAnyIn (zF ro) 0 P md ops Q fuel listed a w
 | 0, _, _, _, h => h
 | fuel + 1, listed, a, w, h => ⟨h.1, fun i hi => by
  have h2 := h.2 i hi
  unfold wpOp at h2
  unfold wpOpIn
  cases ho : ops[i]? with
  | none => rw [ho] at h2; exact any_zF hd hL fuel _ _ _ h2
  | some o =>
   rw [ho] at h2
   simp only at h2 ⊢
   have hnd : noDefer o = true := by
    obtain ⟨hlt, e⟩ := Array.getElem?_eq_some_iff.1 ho
    have := Array.all_eq_true.1 hd i hlt
    rw [e] at this; exact this
   split
   · rename_i hw
     rw [if_pos hw] at h2
     rcases h2 with h2 | h2
     · exact oper_zF (noDefer_spec hnd) (fun a w h => any_zF hd hL fuel _ a w h) h2
     · exact absurd h2.2 hL
   · rename_i hw
     rw [if_neg hw] at h2
     exact ⟨fun _ _ => trivial, any_zF hd hL fuel _ _ _ h2⟩⟩
def zQ (K : Act → World → Prop) : Exit → Act → World → Prop
 | .normal, a, w => K a w
 | _, _, _ => False
theorem zHI {F : Fence} (ro : Option Nat) {W0 : World} {id : Nat} (hF : F = zF ro) (HKP : Hid (∀ W', Below W0.heap.size W0 W' → S W')) (h : S w.drew → wpAnyH P .any ops (zQ (Q .normal)) S ops.size (Array.replicate ops.size false) a w.drew)
  (hd : ops.all noDefer = true := by kernel_rfl) (hm : P.follows .mixedOrders = true := by kernel_rfl) (hb : Below W0.heap.size W0 w.drew := by repeat (first | exact zR _ | assumption | apply zA | apply zD | refine zT ?_ (by assumption))) : (Code.region id ops true).wpIn F 0 P Q a w := by
 subst hF
 refine Code.wpIn_mono (Q := zQ (Q .normal)) (fun e a w he => ?_) (wpIn_region_any hm (any_zF hd (by rintro ⟨_, _, h⟩; exact h) _ _ _ _ (wpAny_of_held _ _ _ _ (h (HKP.out _ hb)))))
 cases e with
 | normal => exact he
 | _ => exact he.elim
theorem zDN {K : Act → World → Prop} {fuel : Nat} {listed : Array Bool} (h : K a w) (hr : Region.ready md ops listed = [] := by kernel_rfl) : wpAnyH P md ops (zQ K) S fuel listed a w := wpAnyH_done hr h fuel
end
section
def Stays (J : Nat → World → Prop) : Prop := ∀ k W W', J k W → Below W.heap.size W W' → J k W'
theorem Kept.of_below {M : Nat → Prop} {A B : World} (h : Below A.heap.size A B) : Kept M A B := ⟨h.size, fun b hb _ => h.block b hb⟩
theorem Kept.putObj (M : Nat → Prop) (A : World) (r : Nat) (o : Obj) (h : M r) : Kept M A (A.putObj r o) :=
 ⟨by simp, fun b _ hm => World.putObj_heap_other fun e => hm (e ▸ h)⟩
theorem below_putObj {B : Nat} (A : World) (r : Nat) (o : Obj) (h : B ≤ r) : Below B A (A.putObj r o) :=
 ⟨rfl, rfl, rfl, by simp, fun k hk => World.putObj_heap_other (by omega)⟩
def StaysX (J : World → Prop) : Prop := ∀ W W', J W → Below W.heap.size W W' → J W'
def Hands2 (P : Program) (gf : Nat) (lb : Array Value) (N : Nat) (el : Nat → Value) (KK : World → Prop) : Prop :=
 ∀ (l : Nat) (J : Nat → World → Prop) (Jx : World → Prop) (M : Nat → Prop) (W : World), (∀ b, M b → b < W.heap.size) → Stays J → StaysX Jx → (∀ k W1, J k W1 → KK W1 ∧ W.heap.size ≤ W1.heap.size) →
  (∀ k W1, J k W1 → k < N → YieldAt Fence.wide 0 P l #[el k] W1 fun e W' => (e = .returned (.bool true) ∧ J (k + 1) W' ∧ Kept M W1 W') ∨ (e = .returned (.bool false) ∧ Jx W')) → J 0 W →
  Calls P gf (#[.func (.yield l) #[] #[]] ++ lb) W fun e W' => (∃ v, e = .returned v) ∧ (J N W' ∨ Jx W')
def RoundPost (Mc : Nat → Prop) (I : Nat → World → Prop) (Ix : Code → World → Prop) (k : Nat) (W : World) : Exit → Act → World → Prop := fun e _ W' => Kept Mc W W' ∧ match e with
 | .normal => I (k + 1) W'
 | .ret => Ix .ret W'
 | .exit id => Ix (.exit id) W'
 | _ => False
variable {P : Program}
theorem wide_range3 {g : Operand} {p : Tmp} {assign body : Code} {Q : Exit → Act → World → Prop} {a : Act} {w : World} {gf : Nat} {lb : Array Value}
  (hg : a.eval g = .func (.func gf) #[] lb) (eg : ∀ args w, (callFunc gf args).run P w = .ok (.enter gf args) w)
  {N : Nat} {el : Nat → Value} {KK : World → Prop} (hseq : Hands2 P gf lb N el KK) (I : Nat → World → Prop) (Ix : Code → World → Prop) (Mc : Nat → Prop) (hMc : ∀ b, Mc b → b < w.heap.size)
  (hI : ∀ k W W', I k W → Below w.heap.size W W' → I k W') (hIx : ∀ c W W', Ix c W → Below w.heap.size W W' → Ix c W') (hKK : ∀ k W, I k W → KK W) (h0 : I 0 w) (a₁ : Nat → Nat → Act) (ob : Nat → Obj)
  (hassign : ∀ (l k : Nat) (W : World) (K : Act → World → Prop), K (a₁ k W.heap.size) (W.alloc (ob k)) →
   assign.wpIn (Fence.wide.inRound l) 0 P (Exit.then K (fun _ _ _ => False)) { tmps := a.tmps.setIfInBounds p (el k), defers := [] } W)
  (hbody : ∀ (l k b : Nat) (W : World), I k W → k < N → W.heap[b]? = some (ob k) → w.heap.size ≤ b → body.wpIn (Fence.wide.inRound l) 0 P (RoundPost Mc I Ix k W) (a₁ k b) W)
  (hdone : ∀ (D : Nat) (W : World), w.heap.size ≤ D → I N W → W.heap[D]? = some (.deferred (some [])) → Q .normal { a with defers := { target := .collected D, args := #[] } :: a.defers } W)
  (hstop : ∀ (D : Nat) (c : Code) (W : World), w.heap.size ≤ D → Ix c W → W.heap[D]? = some (.deferred (some [])) → c.wpIn Fence.wide 0 P Q { a with defers := { target := .collected D, args := #[] } :: a.defers } W) :
  (Code.rangeFunc g #[p] assign body).wpIn Fence.wide 0 P Q a w := by
 refine wpIn_rangeFunc fun fn hfn => ?_
 obtain ⟨rec, hrec⟩ : ∃ rec : LoopState → Option Code → Loop, rec = fun st pe => { state := st, pending := pe, fn, tmps := a.tmps, params := #[p], assign, body, defers := w.heap.size } := ⟨_, rfl⟩
 generalize hW1 : (w.alloc (.deferred (some []))).alloc (.loop (rec .ready none)) = W1
 have hL1 : W1.heap[w.heap.size + 1]? = some (.loop (rec .ready none)) := by
  rw [← hW1]
  have := World.alloc_heap_new (w.alloc (.deferred (some []))) (.loop (rec .ready none))
  rwa [World.size_alloc] at this
 have hK1 : W1.heap[w.heap.size]? = some (.deferred (some [])) := by
  rw [← hW1]
  exact (Below.heap_alloc _ _ _ (by simp)).trans (World.alloc_heap_new w _)
 have hs1 : W1.heap.size = w.heap.size + 2 := by rw [← hW1]; simp
 have hI1 : I 0 W1 := hI 0 w W1 h0 (by rw [← hW1]; exact ((Below.refl _ _).alloc (Nat.le_refl _) _).alloc (by simp) _)
 let J : Nat → World → Prop := fun k W => I k W ∧ W.heap[w.heap.size + 1]? = some (.loop (rec .ready none)) ∧ W.heap[w.heap.size]? = some (.deferred (some []))
 let Jx : World → Prop := fun W => ∃ c, Ix c W ∧ W.heap[w.heap.size + 1]? = some (.loop (rec .done (some c))) ∧ W.heap[w.heap.size]? = some (.deferred (some []))
 have hJs : Stays J := fun k W W' ⟨hi, hl, hk⟩ hb => by
  have hlt := (Array.getElem?_eq_some_iff.1 hl).1
  exact ⟨hI k W W' hi (hb.mono (by omega)), (hb.block _ hlt).trans hl, (hb.block _ (by omega)).trans hk⟩
 have hJxs : StaysX Jx := fun W W' ⟨c, hi, hl, hk⟩ hb => by
  have hlt := (Array.getElem?_eq_some_iff.1 hl).1
  exact ⟨c, hIx c W W' hi (hb.mono (by omega)), (hb.block _ hlt).trans hl, (hb.block _ (by omega)).trans hk⟩
 refine ⟨w.heap.size + 1, [{ target := .collected w.heap.size, args := #[] }], W1, { target := .fn (.func gf) lb, args := #[.func (.yield (w.heap.size + 1)) #[] #[]] }, W1, gf,
  #[.func (.yield (w.heap.size + 1)) #[] #[]] ++ lb, W1, ?_, ?_, fun _ _ => trivial, ?_, fun h => by simp [Fence.wide] at h, ?_⟩
 · rw [← hW1, hrec]; exact run_enterLoop_outer (P := P) (w := w) fn a.tmps #[p] assign body
 · simp only [resolve, hg]
   simp [go_sem]
 · simp [invoke, go_sem, eg]
 · refine (callsIn_wide.2 (hseq (w.heap.size + 1) J Jx (fun b => Mc b ∨ b = w.heap.size + 1) W1 ?_ hJs hJxs (fun k W h => ⟨hKK k W h.1, ?_⟩) ?_ (show J 0 W1 from ⟨hI1, hL1, hK1⟩))).mono ?_
   · rintro b (hb | rfl)
     · have := hMc b hb; omega
     · omega
   · have := (Array.getElem?_eq_some_iff.1 h.2.1).1
     omega
   · rintro k W ⟨hi, hl, hk⟩ hlt
     have hsz : w.heap.size + 1 < W.heap.size := (Array.getElem?_eq_some_iff.1 hl).1
     have hy := run_yield (P := P) (args := #[el k]) hl (by rw [hrec]; rfl)
     rw [hrec] at hy
     have hz : Array.foldl (fun tmps (x : Nat × Value) => tmps.setIfInBounds x.1 x.2) a.tmps (#[p].zip #[el k]) = a.tmps.setIfInBounds p (el k) := by simp
     change _ = Result.ok (Next.round _ _ (Array.foldl (fun tmps (x : Nat × Value) => tmps.setIfInBounds x.1 x.2) a.tmps (#[p].zip #[el k])) _ _) _ at hy
     rw [hz] at hy
     refine ⟨fn, _, assign, body, hy, roundIn_of_wpIn hfn (hassign _ k W _ ?_)⟩
     have hl1 : (W.alloc (ob k)).heap[w.heap.size + 1]? = some (.loop (rec .ready none)) := (Below.heap_alloc W (ob k) _ hsz).trans hl
     have hk1 : (W.alloc (ob k)).heap[w.heap.size]? = some (.deferred (some [])) := (Below.heap_alloc W (ob k) _ (by omega)).trans hk
     have hsA : (W.alloc (ob k)).heap.size = W.heap.size + 1 := World.size_alloc _ _
     have hiA : I k (W.alloc (ob k)) := hI _ _ _ hi (((Below.refl _ _).alloc (Nat.le_refl _) _).mono (by omega))
     have hbA : ((W.alloc (ob k)).putObj (w.heap.size + 1) (.loop { rec .ready none with state := .busy })).heap[W.heap.size]? = some (ob k) := (World.putObj_heap_other (by omega)).trans (World.alloc_heap_new W (ob k))
     have hKA : Kept (fun b => Mc b ∨ b = w.heap.size + 1) W (W.alloc (ob k)) := Kept.of_below ((Below.refl _ _).alloc (Nat.le_refl _) _)
     clear hl hk hi
     generalize hWA : W.alloc (ob k) = WA at *
     refine ⟨_, run_beginRound hl1 (by rw [hrec]), ?_⟩
     have hszA : w.heap.size + 1 < WA.heap.size := by omega
     have hl2 : (WA.putObj (w.heap.size + 1) (.loop { rec .ready none with state := .busy })).heap[w.heap.size + 1]? = some (.loop { rec .ready none with state := .busy }) := World.putObj_heap_same hszA
     have hk2 : (WA.putObj (w.heap.size + 1) (.loop { rec .ready none with state := .busy })).heap[w.heap.size]? = some (.deferred (some [])) := (World.putObj_heap_other (by omega)).trans hk1
     have hsz2 : (WA.putObj (w.heap.size + 1) (.loop { rec .ready none with state := .busy })).heap.size = WA.heap.size := by simp
     refine wpIn_mono (hbody _ k _ _ (hI _ _ _ hiA (below_putObj _ _ _ (by omega))) hlt hbA (by omega)) ?_
     have fin : ∀ (jump : Option Code) (W3 : World), Kept Mc (WA.putObj (w.heap.size + 1) (.loop { rec .ready none with state := .busy })) W3 →
       (Instr.endRound (w.heap.size + 1) jump).run P W3 = .ok (.bool jump.isNone) (W3.putObj (w.heap.size + 1) (.loop (rec (if jump.isNone then .ready else .done) jump))) ∧
       w.heap.size + 2 ≤ W3.heap.size ∧
       (W3.putObj (w.heap.size + 1) (.loop (rec (if jump.isNone then .ready else .done) jump))).heap[w.heap.size + 1]? = some (.loop (rec (if jump.isNone then .ready else .done) jump)) ∧
       (W3.putObj (w.heap.size + 1) (.loop (rec (if jump.isNone then .ready else .done) jump))).heap[w.heap.size]? = some (.deferred (some [])) := fun jump W3 hko => by
      have hl3 := (hko.2 (w.heap.size + 1) (by omega) (fun h => by have := hMc _ h; omega)).trans hl2
      have hk3 := (hko.2 w.heap.size (by omega) (fun h => by have := hMc _ h; omega)).trans hk2
      have := run_endRound (P := P) jump hl3
      rw [hrec] at this ⊢
      exact ⟨this, (Array.getElem?_eq_some_iff.1 hl3).1, World.putObj_heap_same (Array.getElem?_eq_some_iff.1 hl3).1, (World.putObj_heap_other (by omega)).trans hk3⟩
     rintro e a3 W3 ⟨hko, hp⟩
     cases e with
     | normal =>
      obtain ⟨hr, hl3, hl4, hk4⟩ := fin none W3 hko
      exact ⟨_, _, hr, .inl ⟨rfl, ⟨hI _ _ _ hp (below_putObj _ _ _ (by omega)), hl4, hk4⟩, hKA.trans (((Kept.putObj (fun b => Mc b ∨ b = w.heap.size + 1) WA _ _ (.inr rfl)).trans (hko.mono fun b h => .inl h)).trans (Kept.putObj _ _ _ _ (.inr rfl)))⟩⟩
     | ret =>
      obtain ⟨hr, hl3, hl4, hk4⟩ := fin (some .ret) W3 hko
      exact ⟨_, _, hr, .inr ⟨rfl, .ret, hIx _ _ _ hp (below_putObj _ _ _ (by omega)), hl4, hk4⟩⟩
     | exit id =>
      obtain ⟨hr, hl3, hl4, hk4⟩ := fin (some (.exit id)) W3 hko
      exact ⟨_, _, hr, .inr ⟨rfl, .exit id, hIx _ _ _ hp (below_putObj _ _ _ (by omega)), hl4, hk4⟩⟩
     | goto t => exact hp.elim
     | panic ch => exact hp.elim
     | outgrown => exact hp.elim
   · rintro e W2 ⟨⟨v, rfl⟩, (⟨hi, hl, hk⟩ | ⟨c, hi, hl, hk⟩)⟩
     · exact ⟨none, _, by have := run_endLoop (P := P) hl (by rw [hrec]; simp); rw [hrec] at this; exact this, hdone _ _ (Nat.le_refl _) (hI _ _ _ hi (below_putObj _ _ _ (by omega))) ((World.putObj_heap_other (by omega)).trans hk)⟩
     · exact ⟨some c, _, by have := run_endLoop (P := P) hl (by rw [hrec]; simp); rw [hrec] at this; exact this, hstop _ c _ (Nat.le_refl _) (hIx _ _ _ hi (below_putObj _ _ _ (by omega))) ((World.putObj_heap_other (by omega)).trans hk)⟩
end
theorem rEqual : ∀ (t : Tree) (r s : RN) (w : World), NodeM w w.heap.size t r → NodeM w w.heap.size t s → costT t ≤ 3000 →
  Calls Tryz.prog 22 #[r.val, s.val] w fun e w' => e = .returned (.bool true) ∧ Below w.heap.size w w' := by
 refine tree_ind (fun k f en a n l ih r s w hm hm' hc => ?_)
 obtain ⟨A, cap, rfl, hk⟩ := hm.open2
 obtain ⟨A', cap', rfl, hk'⟩ := hm'.open2
 have hlen := kids_few hc
 unfold RN.val
 have HB := Lib.hid (below2 w)
 have H1 := Lib.hid hk
 have H2 := Lib.hid hk'
 have HI := Lib.hid (fun x hx rx ry W h1 h2 => ih x hx rx ry W h1 h2 (kid_cost hc hx))
 clear hm hm' ih hc hk hk'
 go_enter Tryz.func22, Tryz.ntmps22
 go_wp2_with fail
 go_loopw [5] (fun i wr => ∃ j : Nat, j ≤ l.length ∧ i = .int .i64 j ∧ wr.heap[w.heap.size]? = some (boxC ⟨k, f, en, a, toBA n, A, l.length, cap⟩) ∧ wr.heap[w.heap.size + 1]? = some (boxC ⟨k, f, en, a, toBA n, A', l.length, cap'⟩) ∧ Below w.heap.size w wr) (fun i _ => l.length - (intOf i).toNat)
 case atStart => exact ⟨0, Nat.zero_le _, rfl, nb_alloc (heap_alloc_new _ _), by have := heap_alloc_new (w.alloc (boxC ⟨k, f, en, a, toBA n, A, l.length, cap⟩)) (boxC ⟨k, f, en, a, toBA n, A', l.length, cap'⟩); rwa [World.size_alloc] at this, HB.out _ _⟩
 case round =>
  obtain ⟨j, hj, rfl, hbx, hbx', hb⟩ := hrel
  have HB1 := Lib.hid hb
  have HBX := Lib.hid (And.intro hbx hbx')
  obtain ⟨e0, e1, e2, e3, e4, e5, ez, el⟩ := ncells hbx
  obtain ⟨g0, g1, g2, g3, g4, g5, gz, gl⟩ := ncells hbx'
  have hsz := hb.size
  clear hb hbx hbx'
  by_cases hlt : j < l.length
  · obtain ⟨x, hx⟩ : ∃ x, l[j]? = some x := ⟨_, List.getElem?_eq_getElem hlt⟩
    obtain ⟨b, off, rx, rfl, hbb, hmx, c0, c1, c2, c3, c4, c5⟩ := (H1.out.later HB1.out (Nat.le_refl _)).at hx
    obtain ⟨b', off', ry, rfl, hbb', hmy, d0, d1, d2, d3, d4, d5⟩ := (H2.out.later HB1.out (Nat.le_refl _)).at hx
    have hb1 : b < wr.heap.size := by omega
    have hb2 : b' < wr.heap.size := by omega
    have HM := Lib.hid (And.intro (hmx.here hsz) (hmy.here hsz))
    have HC := Lib.hid (HI.out x (List.mem_of_getElem? hx) rx ry)
    unfold RN.val at HC
    clear hmx hmy hx
    go_wp2_with fail
    go_region_held3 (fun w' => Below wr.heap.size wr w' ∧ w'.cell? ⟨w.heap.size, 5, none⟩ = some (.slice (some ⟨b, off, none⟩) l.length cap) ∧ w'.cell? ⟨w.heap.size + 1, 5, none⟩ = some (.slice (some ⟨b', off', none⟩) l.length cap') ∧ w'.cell? ⟨b, off + j * 6, none⟩ = some (.int .i64 rx.kind) ∧ w'.cell? ⟨b, off + j * 6 + 1, none⟩ = some (.int .i64 rx.fr) ∧ w'.cell? ⟨b, off + j * 6 + 2, none⟩ = some (.int .i64 rx.en) ∧
  w'.cell? ⟨b, off + j * 6 + 3, none⟩ = some (.int .i64 rx.at_) ∧ w'.cell? ⟨b, off + j * 6 + 4, none⟩ = some (.string rx.name) ∧ w'.cell? ⟨b, off + j * 6 + 5, none⟩ = some (.slice rx.A rx.n rx.cap) ∧ w'.cell? ⟨b', off' + j * 6, none⟩ = some (.int .i64 ry.kind) ∧ w'.cell? ⟨b', off' + j * 6 + 1, none⟩ = some (.int .i64 ry.fr) ∧ w'.cell? ⟨b', off' + j * 6 + 2, none⟩ = some (.int .i64 ry.en) ∧
  w'.cell? ⟨b', off' + j * 6 + 3, none⟩ = some (.int .i64 ry.at_) ∧ w'.cell? ⟨b', off' + j * 6 + 4, none⟩ = some (.string ry.name) ∧ w'.cell? ⟨b', off' + j * 6 + 5, none⟩ = some (.slice ry.A ry.n ry.cap))
     (first
      | (refine ⟨(Below.refl _ _).drew, ?_⟩; go_keep; done)
      | exact six_two (Below.refl _ _).drew hbS hb1 hb2 el gl ⟨c0, c1, c2, c3, c4, c5⟩ ⟨d0, d1, d2, d3, d4, d5⟩ e5 g5
      | go_keep)
     (first | (go_at_call 22; refine (HC.out _ (HM.out.1.after (Nat.le_refl _) (Below.refl _ _).drew) (HM.out.2.after (Nat.le_refl _) (Below.refl _ _).drew)).mono ?_; rintro e w2 ⟨rfl, hbS⟩))
    rename_i hST
    have HB2 := Lib.hid (And.intro (And.intro (nb_below HBX.out.1 hST.1) (nb_below HBX.out.2 hST.1)) (below_then HB1.out hST.1))
    clear hST
    go_wp2_with fail
    go_roundw
    case rel => exact ⟨j + 1, by omega, by go_num, HB2.out.1.1, HB2.out.1.2, HB2.out.2⟩
    case measure => simp only [intOf]; omega
  · go_wp2_with fail
    go_ret
    exact ⟨rfl, HB1.out⟩
section
variable {P : Program} {α : Type} {cs : α → List Value} {sz : Nat}
theorem RowOf.flatN (hs : ∀ x, (cs x).length = sz) (hsz : 0 < sz) {w : World} {B : Nat} {A : Option Addr} {l : List α} (h : RowOf cs sz w B A l) {q : Nat} {u : Value} (hq : (l.flatMap cs)[q]? = some u) :
  ∃ b off, A = some ⟨b, off, none⟩ ∧ b < B ∧ w.cell? ⟨b, off + q, none⟩ = some u := by
 have hlen : q < l.length * sz := by
  rw [← flat_len hs l]
  rcases Nat.lt_or_ge q (l.flatMap cs).length with h' | h'
  · exact h'
  · rw [List.getElem?_eq_none h'] at hq; cases hq
 have hi : q / sz < l.length := by rw [Nat.div_lt_iff_lt_mul hsz]; exact hlen
 have hj : q % sz < sz := Nat.mod_lt _ hsz
 obtain ⟨x, hx⟩ := get_some hi
 obtain ⟨b, off, hA, hB, hc⟩ := h (Nat.lt_of_le_of_lt (Nat.zero_le _) hi)
 have hv : (cs x)[q % sz]? = some ((cs x)[q % sz]'(by rw [hs]; exact hj)) := List.getElem?_eq_getElem _
 have hf := flat_at hs l (q / sz) x hx (q % sz) _ hv
 have he : q / sz * sz + q % sz = q := by rw [Nat.mul_comm]; exact Nat.div_add_mod q sz
 rw [he, hq] at hf
 have := hc (q / sz) x hx (q % sz) _ hv
 rw [Nat.add_assoc, he, ← hf] at this
 exact ⟨b, off, hA, hB, this⟩
theorem flat_oneN (hone1 : ∀ y, ∀ u ∈ cs y, u.oneCell' = true) (l : List α) : ∀ u ∈ l.flatMap cs, u.oneCell' = true := by
 intro u hu
 obtain ⟨x, _, hx⟩ := List.mem_flatMap.1 hu
 exact hone1 x u hx
end
theorem info24 : (Tryz.prog.info? 24).map (fun i => (i.zero, i.size, i.bytes)) = some (some (.agg #[.int .i64 0, .int .i64 0, .int .i64 0, .int .i64 0, .string ⟨#[]⟩, .slice none 0 0]), 6, 72) := by kernel_rfl
theorem run_append_rows (A : Option Addr) (m c : Nat) (V : Value) (l l1 : List RN) (B B1 : Nat) (w : World) (hV : OwnN w B V l) (hm : m = l1.length) (hl : l.length + l1.length ≤ 100000) (hr : RowOf RN.cells 6 w B1 A l1) (hB : B ≤ w.heap.size) (hnil : A = none → m = 0) :
  ∃ v w1, (Builtin.append_ #[22, 22] 22 #[V, .slice A m c]).run Tryz.prog w = .ok v w1 ∧ OwnN w1 B v (l ++ l1) ∧ w.grownBy w1 V.ownBlock := by
 obtain ⟨i33, hi33, hz0, hz1, hz2⟩ := info_cut info24
 subst hm
 cases A with
 | none =>
  have h0 := hnil rfl
  obtain rfl : l1 = [] := List.eq_nil_of_length_eq_zero h0
  rcases hV.2 with ⟨hv, h0'⟩ | ⟨g, cap, cur, hv, hg1, hg, hc, hcm, hs, ht⟩
  · subst hv
    refine ⟨.slice none 0 0, w, ?_, by rw [List.append_nil]; exact hV, World.grownBy.refl _ _⟩
    simp [Builtin.append_, run_underlying Tryz.underlying22, sizeOf, typeInfo, zeroValue, hi33, hz0, Builtin.lenOf, run_firstCells_none]
  · subst hv
    refine ⟨.slice (some ⟨g, 0, none⟩) l.length cap, w, ?_, by rw [List.append_nil]; exact hV, World.grownBy.refl _ _⟩
    simp [Builtin.append_, run_underlying Tryz.underlying22, sizeOf, typeInfo, zeroValue, hi33, hz0, Builtin.lenOf, run_firstCells_none, hc, storeCells]
 | some a =>
  obtain ⟨v, w1, h1, h2, h3, _⟩ := run_append_own_at (P := Tryz.prog) w B 22 22 24 i33 _ 6 72 Tryz.underlying22 hi33 hz0 hz1 hz2 rfl (by decide) V l.length (l.flatMap RN.cells) hV a l1.length c (l1.flatMap RN.cells) (flat_len RN.len l1)
   (fun j u hj => by
    obtain ⟨b, off, hA, _, hc⟩ := hr.flatN RN.len (by decide) hj
    injection hA with hA
    subst hA
    rw [Addr.add_lit]
    exact hc) (flat_oneN RN.one l1) (by unfold maxLen; omega) (by omega) hB
  refine ⟨v, w1, h1, ?_, h3⟩
  unfold OwnN Own
  rw [List.length_append, List.flatMap_append]
  exact h2
theorem wpList_append_run {P : Program} {ops : Array Oper} {rest : List Oper} {o : Oper} {a : Act} {Q : Exit → Act → World → Prop} (hgd : o.guard = none) (s x : Operand) (t : TypeId)
  (ho : o.op = .call { callee := .builtin .append, args := #[s, x], argTypes := #[t, t] }) (W w1 : World) (V X v : Value) (hs : a.eval s = V) (hx : a.eval x = X)
  (hrun : (Builtin.append_ #[t, t] o.type #[V, X]).run P W = .ok v w1) (h : wpList P ops Q rest (a.put o.dst v) w1) : wpList P ops Q (o :: rest) a W := by
 refine wpList_plain hgd fun K hK => ?_
 unfold Oper.wp execOp
 simp only [ho, resolve, invoke, builtin, Sem.run_bind, Sem.run_pure, Result.andThen_ok, List.map_toArray, List.map_cons, List.map_nil, hs, hx, hrun]
 exact hK _ _ h
theorem wpList_append_rows {ops : Array Oper} {rest : List Oper} {o : Oper} {a : Act} {Q : Exit → Act → World → Prop} (hgd : o.guard = none) (s x : Operand)
  (ho : o.op = .call { callee := .builtin .append, args := #[s, x], argTypes := #[22, 22] }) (hty : o.type = 22) (W : World) (B B1 : Nat) (V : Value) (A : Option Addr) (m c : Nat) (l l1 : List RN) (hs : a.eval s = V) (hx : a.eval x = .slice A m c)
  (hV : OwnN W B V l) (hm : m = l1.length) (hl : l.length + l1.length ≤ 100000) (hr : RowOf RN.cells 6 W B1 A l1) (hB : B ≤ W.heap.size) (hnil : A = none → m = 0)
  (h : ∀ v' w', OwnN w' B v' (l ++ l1) → W.grownBy w' V.ownBlock → wpList Tryz.prog ops Q rest (a.put o.dst v') w') : wpList Tryz.prog ops Q (o :: rest) a W := by
 obtain ⟨v, w1, hrun, h1, h2⟩ := run_append_rows A m c V l l1 B B1 W hV hm hl hr hB hnil
 exact wpList_append_run hgd s x 22 ho W w1 V _ v hs hx (by rw [hty]; exact hrun) (h v w1 h1 h2)
theorem ReadL.app {w : World} {B : Nat} {L M : List Tree} {rs ss : List RN} (h : ReadL w B L rs) (k : ReadL w B M ss) : ReadL w B (L ++ M) (rs ++ ss) := by
 refine ⟨by simp [h.1, k.1], fun i y s hy hs => ?_⟩
 rcases Nat.lt_or_ge i L.length with hi | hi
 · rw [List.getElem?_append_left hi] at hy
   rw [List.getElem?_append_left (by rw [h.1]; exact hi)] at hs
   exact h.2 i y s hy hs
 · rw [List.getElem?_append_right hi] at hy
   rw [List.getElem?_append_right (by rw [h.1]; exact hi), h.1] at hs
   exact k.2 _ y s hy hs
theorem OwnN.one_ (w : World) (r : RN) : OwnN (w.alloc (boxC r)) w.heap.size (.slice (some ⟨w.heap.size, 0, none⟩) 1 1) [r] := by
 have := World.ownsRow_lit (base := w.heap.size) (e := 24) (size := 6) w #[.int .i64 r.kind, .int .i64 r.fr, .int .i64 r.en, .int .i64 r.at_, .string r.name, .slice r.A r.n r.cap] 1 (Nat.le_refl _) (by decide) rfl
 exact this
mutual
theorem each_cost : ∀ t : Tree, (eachV t).length ≤ costT t
 | .mk k f e a n l => by
  have := eachL_cost l
  rw [eachV, costT]
  split
  · simp
  · rw [List.length_cons]; omega
theorem eachL_cost : ∀ l : List Tree, (eachL l).length ≤ costL l
 | [] => by simp [eachL]
 | t :: l => by
  have h1 := each_cost t
  have h2 := eachL_cost l
  rw [eachL, costL, List.length_append]; omega
end
theorem eachL_snoc : ∀ (l : List Tree) (x : Tree), eachL (l ++ [x]) = eachL l ++ eachV x
 | [], x => by simp [eachL]
 | t :: l, x => by rw [List.cons_append, eachL, eachL_snoc l x, eachL, List.append_assoc]
theorem eachL_take {k f e a : Int} {n : BL} {l : List Tree} {N : Nat} (h : costT (.mk k f e a n l) ≤ N) (j : Nat) : (eachL (l.take j)).length ≤ N := by
 have h1 := eachL_cost (l.take j)
 have h2 := costL_take l j
 have e : costT (.mk k f e a n l) = costL l + n.length + 1 := by rw [costT]
 omega
theorem rEach : ∀ (t : Tree) (r : RN) (w : World) (B : Nat), NodeM w B t r → B ≤ w.heap.size → costT t ≤ 3000 →
  Calls Tryz.prog 25 #[r.val] w (NodesOut (eachV t) B w) := by
 refine tree_ind (fun k f en a n l ih r w B hm hB hc => ?_)
 obtain ⟨A, cap, rfl, hk⟩ := hm.open2
 have hlen := kids_few hc
 have HB := Lib.hid ((Below.refl w.heap.size w).alloc (Nat.le_refl _) (boxC ⟨k, f, en, a, toBA n, A, l.length, cap⟩))
 have HK := Lib.hid hk
 have HI := Lib.hid (fun x hx rx W B h1 h2 => ih x hx rx W B h1 h2 (kid_cost hc hx))
 have HC := Lib.hid hc
 have HM := Lib.hid hm
 have HBB := Lib.hid hB
 clear hm ih hc hk
 unfold RN.val
 by_cases h0 : k = 0
 · subst h0
   have HV := Lib.hid (show eachV (.mk 0 f en a n l) = [] by simp [eachV])
   go_enter Tryz.func25, Tryz.ntmps25
   go_wp2_with fail
   go_ret
   rw [HV.out]; exact .nil_ _ _ _ HB.out
 have b0 : (k == 0) = false := beq_eq_false_iff_ne.2 h0
 have HV := Lib.hid (show eachV (.mk k f en a n l) = .mk k f en a n l :: eachL l by rw [eachV, if_neg h0])
 go_enter Tryz.func25, Tryz.ntmps25
 go_wp2_with fail
 go_loopw [3, 4] (fun o i wr => ∃ (j : Nat) (rs : List RN), j ≤ l.length ∧ i = .int .i64 j ∧ wr.heap[w.heap.size]? = some (boxC ⟨k, f, en, a, toBA n, A, l.length, cap⟩) ∧ OwnN wr (w.heap.size + 1) o (⟨k, f, en, a, toBA n, A, l.length, cap⟩ :: rs) ∧ ReadL w B (eachL (l.take j)) rs ∧ Below w.heap.size w wr) (fun _ i _ => l.length - (intOf i).toNat)
 case atStart => exact ⟨0, [], Nat.zero_le _, rfl, nb_alloc (heap_alloc_new _ _), by have := OwnN.one_ (w.alloc (boxC ⟨k, f, en, a, toBA n, A, l.length, cap⟩)) ⟨k, f, en, a, toBA n, A, l.length, cap⟩; rwa [World.size_alloc] at this, .nil_, HB.out.alloc HB.out.size _⟩
 case round =>
  obtain ⟨j, rs, hj, rfl, hbx, hown, hrl, hb⟩ := hrel
  have HOW := Lib.hid hown
  have HB1 := Lib.hid hb
  have HRL := Lib.hid hrl
  have HBX := Lib.hid hbx
  obtain ⟨e0, e1, e2, e3, e4, e5, ez, el⟩ := ncells hbx
  have hsz := hb.size
  have hrn : rs.length ≤ 3000 := by rw [hrl.1]; exact eachL_take HC.out j
  clear hb hbx hown hrl
  by_cases hlt : j < l.length
  · obtain ⟨x, hx⟩ : ∃ x, l[j]? = some x := ⟨_, List.getElem?_eq_getElem hlt⟩
    obtain ⟨b, off, rx, rfl, hbb, hmx, c0, c1, c2, c3, c4, c5⟩ := (HK.out.later HB1.out HBB.out).at hx
    have hb1 : b < wr.heap.size := by omega
    have HX := Lib.hid (show eachL (l.take (j + 1)) = eachL (l.take j) ++ eachV x by rw [take_succ_at hx, eachL_snoc])
    have HXC := Lib.hid (Nat.le_trans (each_cost x) (kid_cost HC.out (List.mem_of_getElem? hx)))
    have HCL := Lib.hid (HI.out x (List.mem_of_getElem? hx) rx wr B hmx (by omega))
    unfold RN.val at HCL
    clear hmx hx
    obtain ⟨m, hl0⟩ : ∃ m, (eachV x).length = m := ⟨_, rfl⟩
    have hm1 : m ≤ 3000 := by have := HXC.out; omega
    go_wp2_with (first | (go_at_call 25; refine HCL.out.mono ?_; rintro e w2 ⟨⟨A2, cap2, rs2, rfl, hrow2, hrl2, hn2⟩, hb2⟩; rw [hl0]; have HB2 := Lib.hid (And.intro (nb_below HBX.out hb2) (below_then HB1.out hb2)); have HO2 := Lib.hid (Own.below HOW.out hb2); have HR2 := Lib.hid (And.intro hrow2 (And.intro hrl2 hn2)); obtain ⟨g0, g1, g2, g3, g4, g5, gz, gl⟩ := ncells HB2.out.1; clear hb2 hn2 hrow2 hrl2) | (at_builtin; go_must (refine wpList_append_rows rfl _ _ rfl rfl w2 (w.heap.size + 1) w2.heap.size u3 A2 m cap2 (⟨k, f, en, a, toBA n, some ⟨b, off, none⟩, l.length, cap⟩ :: rs) rs2 (by rfl) (by rfl) HO2.out (by rw [HR2.out.2.1.1, hl0]) (by rw [HR2.out.2.1.1, hl0]; simp; omega) HR2.out.1 (by omega) (fun hA => by rw [← hl0]; exact HR2.out.2.2 hA) ?_); intro v3 w3 ho3 hg3))
    have HO3 := Lib.hid ho3
    have HG3 := Lib.hid hg3
    clear ho3 hg3
    go_roundw
    case rel =>
     have hbw : Below w.heap.size w wr := HB1.out
     have hne : ∀ q, u3.ownBlock = some q → q ≠ w.heap.size := fun q hq => by have := (Own.lt HOW.out q hq).1; omega
     exact ⟨j + 1, rs ++ rs2, by omega, by go_num, (HG3.out.block w.heap.size (by omega) (fun e => hne _ e.symm rfl)).trans HB2.out.1, HO3.out, by rw [HX.out]; exact HRL.out.app (HR2.out.2.1.back (B' := w.heap.size) hbw HBB.out), below_grown HB2.out.2 (OwnN.mono HO2.out (B' := w.heap.size) (by omega)) (by omega) HG3.out⟩
    case measure => simp only [intOf]; omega
  · have HV2 := Lib.hid (show eachV (.mk k f en a n l) = .mk k f en a n l :: eachL (l.take j) by rw [HV.out, List.take_of_length_le (by omega)])
    go_wp2_with fail
    go_ret
    rw [HV2.out]
    exact .own HOW.out (.cons HM.out HRL.out) HB1.out
theorem tight_no {size k f en a : Int} {n : BL} {l : List Tree} (h : ¬ (0 ≤ f ∧ f ≤ a ∧ a ≤ en ∧ en ≤ size)) : tightV size (.mk k f en a n l) = false := by
 show (decide (0 ≤ f) && decide (f ≤ a) && decide (a ≤ en) && decide (en ≤ size) && tightL en f l) = _
 rw [Bool.eq_false_iff]
 intro hh
 simp only [Bool.and_eq_true, decide_eq_true_eq] at hh
 omega
theorem tight_yes {size k f en a : Int} {n : BL} {l : List Tree} (h : 0 ≤ f ∧ f ≤ a ∧ a ≤ en ∧ en ≤ size) : tightV size (.mk k f en a n l) = tightL en f l := by
 show (decide (0 ≤ f) && decide (f ≤ a) && decide (a ≤ en) && decide (en ≤ size) && tightL en f l) = _
 rw [decide_eq_true h.1, decide_eq_true h.2.1, decide_eq_true h.2.2.1, decide_eq_true h.2.2.2]
 rfl
theorem aTight (size : Int) (t : Tree) (r : RN) (w : World) (hm : NodeM w w.heap.size t r) (hc : costT t ≤ 3000) :
  Calls Tryz.prog 52 #[r.val, .int .i64 size] w fun e w' => e = .returned (.bool (tightV size t)) ∧ Below w.heap.size w w' := by
 obtain ⟨k, f, en, a, n, l⟩ := t
 obtain ⟨A, cap, rfl, hk⟩ := hm.open2
 have hlen := kids_few hc
 have HB := Lib.hid ((Below.refl w.heap.size w).alloc (Nat.le_refl _) (boxC ⟨k, f, en, a, toBA n, A, l.length, cap⟩))
 have HK := Lib.hid hk
 clear hm hc hk
 unfold RN.val
 by_cases h0 : f < 0
 · have HV := Lib.hid (tight_no (size := size) (k := k) (f := f) (en := en) (a := a) (n := n) (l := l) (by omega))
   go_enter Tryz.func52, Tryz.ntmps52
   go_wp2_with fail
   go_ret
   exact ⟨ret_bool HV.out.symm, HB.out⟩
 by_cases h1 : a < f
 · have HV := Lib.hid (tight_no (size := size) (k := k) (f := f) (en := en) (a := a) (n := n) (l := l) (by omega))
   go_enter Tryz.func52, Tryz.ntmps52
   go_wp2_with fail
   go_ret
   exact ⟨ret_bool HV.out.symm, HB.out⟩
 by_cases h2 : en < a
 · have HV := Lib.hid (tight_no (size := size) (k := k) (f := f) (en := en) (a := a) (n := n) (l := l) (by omega))
   go_enter Tryz.func52, Tryz.ntmps52
   go_wp2_with fail
   go_ret
   exact ⟨ret_bool HV.out.symm, HB.out⟩
 by_cases h3 : size < en
 · have HV := Lib.hid (tight_no (size := size) (k := k) (f := f) (en := en) (a := a) (n := n) (l := l) (by omega))
   go_enter Tryz.func52, Tryz.ntmps52
   go_wp2_with fail
   go_ret
   exact ⟨ret_bool HV.out.symm, HB.out⟩
 have HV := Lib.hid (tight_yes (size := size) (k := k) (f := f) (en := en) (a := a) (n := n) (l := l) (by omega))
 go_enter Tryz.func52, Tryz.ntmps52
 go_wp2_with fail
 go_loopw [5, 36] (fun m i wr => ∃ (j : Nat) (z : Int), j ≤ l.length ∧ i = .int .i64 j ∧ m = .int .i64 z ∧ tightL en f l = tightL en z (l.drop j) ∧ wr.heap[w.heap.size]? = some (boxC ⟨k, f, en, a, toBA n, A, l.length, cap⟩) ∧ Below w.heap.size w wr) (fun _ i _ => l.length - (intOf i).toNat)
 case atStart => exact ⟨0, f, Nat.zero_le _, rfl, rfl, rfl, heap_alloc_new _ _, HB.out⟩
 case round =>
  obtain ⟨j, z, hj, rfl, rfl, hv, hbx, hb⟩ := hrel
  have HB1 := Lib.hid hb
  have HV1 := Lib.hid hv
  have HBX := Lib.hid hbx
  obtain ⟨e0, e1, e2, e3, e4, e5, ez, el⟩ := ncells hbx
  have hsz := hb.size
  clear hb hv hbx
  by_cases hlt : j < l.length
  · obtain ⟨x, hx⟩ : ∃ x, l[j]? = some x := ⟨_, List.getElem?_eq_getElem hlt⟩
    obtain ⟨b, off, rx, rfl, hbb, hmx, c0, c1, c2, c3, c4, c5⟩ := (HK.out.later HB1.out (Nat.le_refl _)).at hx
    have hb1 : b < wr.heap.size := by omega
    have HX := Lib.hid (show tightL en f l = if rx.kind = 0 then tightL en z (l.drop (j + 1)) else decide (z ≤ rx.fr) && decide (rx.en ≤ en) && tightL en (max z rx.en) (l.drop (j + 1)) by
     rw [HV1.out, drop_at_T hx, tightL, hmx.kind, hmx.fr, hmx.en])
    have HBX2 := Lib.hid (nb_alloc (o' := boxC rx) HBX.out)
    have HB2 := Lib.hid (HB1.out.alloc HB1.out.size (boxC rx))
    clear hmx hx
    obtain ⟨xk, xf, xe, xa, xn, xA, xc, xp⟩ := rx
    simp only at c0 c1 c2 c3 c4 c5 HX
    by_cases k0 : xk = 0
    · rw [if_pos k0] at HX
      subst k0
      go_wp2_with fail
      go_roundw
      case rel => exact ⟨j + 1, z, by omega, by go_num, rfl, HX.out, HBX2.out, HB2.out⟩
      case measure => simp only [intOf]; omega
    · rw [if_neg k0] at HX
      have b0 : (xk == 0) = false := beq_eq_false_iff_ne.2 k0
      by_cases q1 : xf < z
      · have HF := Lib.hid (show tightV size (.mk k f en a n l) = false by rw [HV.out, HX.out, decide_eq_false (by omega)]; simp)
        go_wp2_with fail
        go_ret
        exact ⟨ret_bool HF.out.symm, HB2.out⟩
      by_cases q2 : en < xe
      · have HF := Lib.hid (show tightV size (.mk k f en a n l) = false by rw [HV.out, HX.out, decide_eq_false (p := xe ≤ en) (by omega)]; simp)
        go_wp2_with fail
        go_ret
        exact ⟨ret_bool HF.out.symm, HB2.out⟩
      have HX2 := Lib.hid (show tightL en f l = tightL en (max z xe) (l.drop (j + 1)) by rw [HX.out, decide_eq_true (by omega), decide_eq_true (by omega)]; rfl)
      go_wp2_with fail
      go_roundw
      case rel => exact ⟨j + 1, max z xe, by omega, by go_num, by go_num, HX2.out, HBX2.out, HB2.out⟩
      case measure => simp only [intOf]; omega
  · have HF := Lib.hid (show tightV size (.mk k f en a n l) = true by rw [HV.out, HV1.out, List.drop_of_length_le (by omega)]; rfl)
    go_wp2_with fail
    go_ret
    exact ⟨ret_bool HF.out.symm, HB1.out⟩
theorem placed_no {size k f en a : Int} {n : BL} {l : List Tree} (h0 : ¬ k = 0) (h : ¬ (0 ≤ f ∧ f ≤ a ∧ a ≤ en ∧ en ≤ size)) : placedR size (.mk k f en a n l) = false := by
 rw [placedR, if_neg h0, Bool.eq_false_iff]
 intro hh
 simp only [Bool.and_eq_true, decide_eq_true_eq] at hh
 omega
theorem placed_yes {size k f en a : Int} {n : BL} {l : List Tree} (h0 : ¬ k = 0) (h : 0 ≤ f ∧ f ≤ a ∧ a ≤ en ∧ en ≤ size) : placedR size (.mk k f en a n l) = placedRL size f en [] l := by
 rw [placedR, if_neg h0, decide_eq_true h.1, decide_eq_true h.2.1, decide_eq_true h.2.2.1, decide_eq_true h.2.2.2]
 rfl
theorem rPlaced (size : Int) : ∀ (t : Tree) (r : RN) (w : World), NodeM w w.heap.size t r → costT t ≤ 3000 →
  Calls Tryz.prog 27 #[r.val, .int .i64 size] w fun e w' => e = .returned (.bool (placedR size t)) ∧ Below w.heap.size w w' := by
 refine tree_ind (fun k f en a n l ih r w hm hc => ?_)
 obtain ⟨A, cap, rfl, hk⟩ := hm.open2
 have hlen := kids_few hc
 have HB := Lib.hid ((Below.refl w.heap.size w).alloc (Nat.le_refl _) (boxC ⟨k, f, en, a, toBA n, A, l.length, cap⟩))
 have HK := Lib.hid hk
 have HI := Lib.hid (fun x hx rx W h1 => ih x hx rx W h1 (kid_cost hc hx))
 clear hm hc hk ih
 unfold RN.val
 by_cases h00 : k = 0
 · subst h00
   have HV := Lib.hid (show placedR size (.mk 0 f en a n l) = true by simp [placedR])
   go_enter Tryz.func27, Tryz.ntmps27
   go_wp2_with fail
   go_ret
   exact ⟨ret_bool HV.out.symm, HB.out⟩
 have b00 : (k == 0) = false := beq_eq_false_iff_ne.2 h00
 by_cases h0 : f < 0
 · have HV := Lib.hid (placed_no (size := size) (k := k) (f := f) (en := en) (a := a) (n := n) (l := l) h00 (by omega))
   go_enter Tryz.func27, Tryz.ntmps27
   go_wp2_with fail
   go_ret
   exact ⟨ret_bool HV.out.symm, HB.out⟩
 by_cases h1 : a < f
 · have HV := Lib.hid (placed_no (size := size) (k := k) (f := f) (en := en) (a := a) (n := n) (l := l) h00 (by omega))
   go_enter Tryz.func27, Tryz.ntmps27
   go_wp2_with fail
   go_ret
   exact ⟨ret_bool HV.out.symm, HB.out⟩
 by_cases h2 : en < a
 · have HV := Lib.hid (placed_no (size := size) (k := k) (f := f) (en := en) (a := a) (n := n) (l := l) h00 (by omega))
   go_enter Tryz.func27, Tryz.ntmps27
   go_wp2_with fail
   go_ret
   exact ⟨ret_bool HV.out.symm, HB.out⟩
 by_cases h3 : size < en
 · have HV := Lib.hid (placed_no (size := size) (k := k) (f := f) (en := en) (a := a) (n := n) (l := l) h00 (by omega))
   go_enter Tryz.func27, Tryz.ntmps27
   go_wp2_with fail
   go_ret
   exact ⟨ret_bool HV.out.symm, HB.out⟩
 have HV := Lib.hid (placed_yes (size := size) (k := k) (f := f) (en := en) (a := a) (n := n) (l := l) h00 (by omega))
 go_enter Tryz.func27, Tryz.ntmps27
 go_wp2_with fail
 go_loopw [5] (fun i wr => ∃ (j : Nat), j ≤ l.length ∧ i = .int .i64 j ∧ placedRL size f en [] l = placedRL size f en (l.take j) (l.drop j) ∧ wr.heap[w.heap.size]? = some (boxC ⟨k, f, en, a, toBA n, A, l.length, cap⟩) ∧ Below w.heap.size w wr) (fun i _ => l.length - (intOf i).toNat)
 case atStart => exact ⟨0, Nat.zero_le _, rfl, rfl, heap_alloc_new _ _, HB.out⟩
 case round =>
  obtain ⟨j, hj, rfl, hv, hbx, hb⟩ := hrel
  have HB1 := Lib.hid hb
  have HV1 := Lib.hid hv
  have HBX := Lib.hid hbx
  obtain ⟨e0, e1, e2, e3, e4, e5, ez, el⟩ := ncells hbx
  have hsz := hb.size
  clear hb hv hbx
  by_cases hlt : j < l.length
  · obtain ⟨x, hx⟩ : ∃ x, l[j]? = some x := ⟨_, List.getElem?_eq_getElem hlt⟩
    obtain ⟨b, off, rx, rfl, hbb, hmx, c0, c1, c2, c3, c4, c5⟩ := (HK.out.later HB1.out (Nat.le_refl _)).at hx
    have hb1 : b < wr.heap.size := by omega
    have HX := Lib.hid (show placedRL size f en [] l = ((if rx.kind = 0 then true else decide (f ≤ rx.fr) && decide (rx.en ≤ en) && placedR size x && aheadR rx.fr (l.take j)) && placedRL size f en (l.take (j + 1)) (l.drop (j + 1))) by
     rw [HV1.out, drop_at_T hx, placedRL, hmx.kind, hmx.fr, hmx.en, take_succ_at hx])
    have HBX2 := Lib.hid (nb_alloc (o' := boxC rx) HBX.out)
    have HB2 := Lib.hid (HB1.out.alloc HB1.out.size (boxC rx))
    have HM := Lib.hid hmx
    have HIX := Lib.hid (HI.out x (List.mem_of_getElem? hx) rx)
    unfold RN.val at HIX
    clear hmx hx
    obtain ⟨xk, xf, xe, xa, xn, xA, xc, xp⟩ := rx
    simp only at c0 c1 c2 c3 c4 c5 HX HIX
    by_cases k0 : xk = 0
    · rw [if_pos k0] at HX
      subst k0
      go_wp2_with fail
      go_roundw
      case rel => exact ⟨j + 1, by omega, by go_num, by rw [HX.out]; rfl, HBX2.out, HB2.out⟩
      case measure => simp only [intOf]; omega
    · rw [if_neg k0] at HX
      have b0 : (xk == 0) = false := beq_eq_false_iff_ne.2 k0
      by_cases q1 : xf < f
      · have HF := Lib.hid (show placedR size (.mk k f en a n l) = false by rw [HV.out, HX.out, decide_eq_false (by omega)]; simp)
        go_wp2_with fail
        go_ret
        exact ⟨ret_bool HF.out.symm, HB2.out⟩
      by_cases q2 : en < xe
      · have HF := Lib.hid (show placedR size (.mk k f en a n l) = false by rw [HV.out, HX.out, decide_eq_false (p := xe ≤ en) (by omega)]; simp)
        go_wp2_with fail
        go_ret
        exact ⟨ret_bool HF.out.symm, HB2.out⟩
      have HX2 := Lib.hid (show placedRL size f en [] l = (placedR size x && aheadR xf (l.take j) && placedRL size f en (l.take (j + 1)) (l.drop (j + 1))) by rw [HX.out, decide_eq_true (by omega), decide_eq_true (by omega)]; rfl)
      cases q3 : placedR size x with
      | false =>
       rw [q3] at HIX HX2
       have HF := Lib.hid (show placedR size (.mk k f en a n l) = false by rw [HV.out, HX2.out]; rfl)
       go_wp2_with (first | (go_at_call 27; refine (HIX.out _ (HM.out.boxed HB1.out.size _)).mono ?_; rintro e w2 ⟨rfl, hb2⟩; have HB3 := Lib.hid (below_then HB2.out hb2); clear hb2))
       go_ret
       exact ⟨ret_bool HF.out.symm, HB3.out⟩
      | true =>
       rw [q3] at HIX HX2
       go_wp2_with (first | (go_at_call 27; refine (HIX.out _ (HM.out.boxed HB1.out.size _)).mono ?_; rintro e w2 ⟨rfl, hb2⟩; have HB3 := Lib.hid (And.intro (nb_below HBX2.out hb2) (And.intro (nb_below (heap_alloc_new wr (boxC ⟨xk, xf, xe, xa, xn, xA, xc, xp⟩)) hb2) (below_then HB2.out hb2))); clear hb2))
       have hbw2 : b < w2.heap.size := Nat.lt_of_lt_of_le hbb HB3.out.2.2.size
       obtain ⟨e0, e1, e2, e3, e4, e5, ez, el⟩ := ncells HB3.out.1
       obtain ⟨g0, g1, g2, g3, g4, g5, gz, gl⟩ := ncells HB3.out.2.1
       clear c0 c1 c2 c3 c4 c5
       go_loopw [7] (fun i wx => ∃ (m : Nat), m ≤ j ∧ i = .int .i64 m ∧ aheadR xf (l.take j) = aheadR xf ((l.take j).drop m) ∧ ∃ q, wx = w2.drewN q) (fun i _ => j - (intOf i).toNat)
       case atStart => exact ⟨0, Nat.zero_le _, rfl, rfl, 0, rfl⟩
       case round =>
        obtain ⟨m, hm, rfl, ha, q, rfl⟩ := hrel
        have HA := Lib.hid ha
        clear ha
        by_cases hlm : m < j
        · obtain ⟨y, hy⟩ : ∃ y, l[m]? = some y := ⟨_, List.getElem?_eq_getElem (by omega)⟩
          obtain ⟨b', off', ry, hAe, hbb', hmy, c0, c1, c2, c3, c4, c5⟩ := (HK.out.later HB3.out.2.2 (Nat.le_refl _)).at hy
          injection hAe with hAe
          injection hAe with h1' h2'
          subst h1' h2'
          have HY := Lib.hid (show aheadR xf (l.take j) = ((decide (ry.kind = 0) || decide (ry.en ≤ xf)) && aheadR xf ((l.take j).drop (m + 1))) by
           rw [HA.out, drop_at_T (show (l.take j)[m]? = some y by rw [List.getElem?_take, if_pos hlm]; exact hy), aheadR, hmy.kind, hmy.en])
          clear hmy hy
          obtain ⟨yk, yf, ye, ya, yn, yA, yc, yp⟩ := ry
          simp only at c0 c1 c2 c3 c4 c5 HY
          have p1 : (0 : Int) ≤ (m : Int) := by omega
          have p2 : (m : Int) < (l.length : Int) := by omega
          have p3 : (m : Int) < (j : Int) := by omega
          by_cases y0 : yk = 0
          · have HY2 := Lib.hid (show aheadR xf (l.take j) = aheadR xf ((l.take j).drop (m + 1)) by rw [HY.out, y0]; rfl)
            have y1 : (yk != 0) = false := by simp [y0]
            have y2 : (yk == 0) = true := by simp [y0]
            go_wp2_with fail
            go_region
            go_wp2_with fail
            go_roundw
            case rel => exact ⟨m + 1, by omega, by go_num, HY2.out, _, rfl⟩
            case measure => simp only [intOf]; omega
          · have y1 : (yk != 0) = true := by simp [y0]
            have y2 : (yk == 0) = false := by simp [y0]
            by_cases y3 : xf < ye
            · have y4 : decide (xf < ye) = true := decide_eq_true y3
              have HF := Lib.hid (show placedR size (.mk k f en a n l) = false by rw [HV.out, HX2.out, HY.out, decide_eq_false y0, decide_eq_false (by omega)]; simp)
              go_wp2_with fail
              go_region
              go_wp2_with fail
              go_ret
              exact ⟨ret_bool HF.out.symm, below_draws HB3.out.2.2 _⟩
            · have y4 : decide (xf < ye) = false := decide_eq_false y3
              have HY2 := Lib.hid (show aheadR xf (l.take j) = aheadR xf ((l.take j).drop (m + 1)) by rw [HY.out, decide_eq_true (p := ye ≤ xf) (by omega)]; simp)
              go_wp2_with fail
              go_region
              go_wp2_with fail
              go_roundw
              case rel => exact ⟨m + 1, by omega, by go_num, HY2.out, _, rfl⟩
              case measure => simp only [intOf]; omega
        · have HY2 := Lib.hid (show placedRL size f en [] l = placedRL size f en (l.take (j + 1)) (l.drop (j + 1)) by
           rw [HX2.out, HA.out, List.drop_of_length_le (by rw [List.length_take]; omega)]; rfl)
          go_wp2_with fail
          go_roundw
          case rel => exact ⟨j + 1, by omega, by go_num, HY2.out, HB3.out.1, below_draws HB3.out.2.2 _⟩
          case measure => simp only [intOf]; omega
  · have HF := Lib.hid (show placedR size (.mk k f en a n l) = true by rw [HV.out, HV1.out, List.drop_of_length_le (by omega)]; rfl)
    go_wp2_with fail
    go_ret
    exact ⟨ret_bool HF.out.symm, HB1.out⟩
def PFx (X : Nat → List RN) (j : Nat) : List RN := (List.range j).flatMap X
theorem PFx_succ (X : Nat → List RN) (j : Nat) : PFx X (j + 1) = PFx X j ++ X j := by
 unfold PFx; rw [List.range_succ, List.flatMap_append]; simp
theorem PFx_at (X : Nat → List RN) {j m : Nat} {y : RN} (h : (X j)[m]? = some y) : ∀ n, j < n → (PFx X n)[(PFx X j).length + m]? = some y := by
 intro n
 induction n with
 | zero => intro h; omega
 | succ n ih =>
  intro hj
  rw [PFx_succ]
  have hm : m < (X j).length := (List.getElem?_eq_some_iff.1 h).1
  by_cases hn : j = n
  · subst hn
    rw [List.getElem?_append_right (by omega), Nat.add_sub_cancel_left]; exact h
  · have h1 := ih (by omega)
    have := (List.getElem?_eq_some_iff.1 h1).1
    rw [List.getElem?_append_left this]; exact h1
theorem PFx_read {w : World} {B : Nat} {l : List Tree} {X : Nat → List RN} (h : ∀ i x, l[i]? = some x → ReadL w B (eachV x) (X i)) : ∀ j, j ≤ l.length → ReadL w B (eachL (l.take j)) (PFx X j) := by
 intro j
 induction j with
 | zero => intro _; exact .nil_
 | succ j ih =>
  intro hj
  obtain ⟨x, hx⟩ : ∃ x, l[j]? = some x := ⟨_, List.getElem?_eq_getElem (by omega)⟩
  rw [take_succ_at hx, eachL_snoc, PFx_succ]
  exact (ih (by omega)).app (h j x hx)
def EachC (w : World) (B : Nat) (r : RN) (rs : List RN) : Prop :=
 ∀ (lp : Nat) (J : Nat → World → Prop) (Jx : World → Prop) (M : Nat → Prop) (W : World) (s : Nat), (∀ k W1, J k W1 → ∀ b, M b → b < W1.heap.size) → Stays J → StaysX Jx →
  (∀ k W1, J k W1 → (∀ p : Addr, p.block < B → W1.cell? p = w.cell? p) ∧ B ≤ W1.heap.size) →
  (∀ k W1, J k W1 → s ≤ k → ∀ y, rs[k - s]? = some y → YieldAt Fence.wide 0 Tryz.prog lp #[y.val] W1 fun e W' => (e = .returned (.bool true) ∧ J (k + 1) W' ∧ Kept M W1 W') ∨ (e = .returned (.bool false) ∧ Jx W')) → J s W →
  Calls Tryz.prog 49 #[r.val, .func (.yield lp) #[] #[]] W fun e W' => (e = .returned (.bool true) ∧ J (s + rs.length) W') ∨ (e = .returned (.bool false) ∧ Jx W')
theorem aeach (w : World) (B : Nat) : ∀ (t : Tree) (r : RN), NodeM w B t r → costT t ≤ 3000 → ∃ rs, ReadL w B (eachV t) rs ∧ EachC w B r rs := by
 refine tree_ind (fun k f en a n l ih r hm hc => ?_)
 obtain ⟨A, cap, ks, rfl, hr, hl, hk⟩ := hm.open_
 have hlen := kids_few hc
 by_cases h0 : k = 0
 · subst h0
   refine ⟨[], by rw [show eachV (.mk 0 f en a n l) = [] by simp [eachV]]; exact .nil_, ?_⟩
   intro lp J Jx M W s hM hJ hJx hK hY h0
   unfold RN.val
   have HJ := Lib.hid (hJ _ _ (W.alloc (boxC ⟨0, f, en, a, toBA n, A, l.length, cap⟩)) h0 ((Below.refl _ _).alloc (Nat.le_refl _) _))
   clear hM hJx hK hY h0 hJ hm hr hk ih
   go_enter Tryz.func49, Tryz.ntmps49
   go_wp2_with fail
   go_ret
   exact .inl ⟨rfl, HJ.out⟩
 have b0 : (k == 0) = false := beq_eq_false_iff_ne.2 h0
 have hX : ∀ i, i < l.length → ∃ rs : List RN, ∀ x rx, l[i]? = some x → ks[i]? = some rx → ReadL w B (eachV x) rs ∧ EachC w B rx rs := fun i hi => by
  obtain ⟨x, hx⟩ : ∃ x, l[i]? = some x := ⟨_, List.getElem?_eq_getElem hi⟩
  obtain ⟨rx, hrx⟩ : ∃ rx, ks[i]? = some rx := ⟨_, List.getElem?_eq_getElem (by omega)⟩
  obtain ⟨rs, h1, h2⟩ := ih x (List.mem_of_getElem? hx) rx (hk i x rx hx hrx) (kid_cost hc (List.mem_of_getElem? hx))
  refine ⟨rs, fun x' rx' hx' hrx' => ?_⟩
  rw [hx] at hx'; rw [hrx] at hrx'
  cases hx'; cases hrx'
  exact ⟨h1, h2⟩
 obtain ⟨X, hX⟩ := Go.Deep.choose_lt hX
 have hread : ∀ i x, l[i]? = some x → ReadL w B (eachV x) (X i) := fun i x hx => by
  have hi := (List.getElem?_eq_some_iff.1 hx).1
  exact (hX i hi x _ hx (List.getElem?_eq_getElem (by omega))).1
 have hall := PFx_read hread l.length (Nat.le_refl _)
 rw [List.take_length] at hall
 refine ⟨⟨k, f, en, a, toBA n, A, l.length, cap⟩ :: PFx X l.length, by rw [eachV, if_neg h0]; exact .cons hm hall, ?_⟩
 intro lp J Jx M W s hM hJ hJx hK hY hs
 have HM := Lib.hid hM
 have HJ := Lib.hid hJ
 have HJX := Lib.hid hJx
 have HK := Lib.hid hK
 have HY := Lib.hid hY
 have HX := Lib.hid hX
 have HS := Lib.hid hs
 have HR := Lib.hid (And.intro hr (And.intro hl hk))
 have hj0 := hJ _ _ (W.alloc (.cells #[.int .i64 k, .int .i64 f, .int .i64 en, .int .i64 a, .string (toBA n), .slice A l.length cap] 24)) hs ((Below.refl _ _).alloc (Nat.le_refl _) _)
 obtain ⟨f0, t0, a0, bb0, hy0, hR0⟩ := hY s _ hj0 (Nat.le_refl _) ⟨k, f, en, a, toBA n, A, l.length, cap⟩ (by rw [Nat.sub_self]; rfl)
 have HR0 := Lib.hid hR0
 unfold RN.val at hy0
 clear hM hJ hJx hK hY hX hr hl hk hm ih hread hall hs hj0 hR0
 unfold RN.val
 refine (callsIn_wide (n := 0)).1 (callsIn_of_wp Tryz.func49 rfl trivial ?_)
 simp only [Tryz.ntmps49, List.size_toArray, List.length_cons, List.length_nil, Nat.reduceAdd, Nat.reduceSub, Array.replicate_succ, Array.replicate_zero, List.push_toArray, List.append_toArray, List.nil_append, List.cons_append]
 gi_wp2_with fail
 refine ⟨rfl, HR0.out.mono ?_⟩
 have hMx : ¬ M W.heap.size := fun h => by have := HM.out _ _ HS.out _ h; omega
 have heach : eachV (.mk k f en a n l) = .mk k f en a n l :: eachL l := by rw [eachV, if_neg h0]
 rintro e W3 (⟨rfl, hj3, hk3⟩ | ⟨rfl, hj3⟩)
 · have hbx : W3.heap[W.heap.size]? = some (boxC ⟨k, f, en, a, toBA n, A, l.length, cap⟩) := (hk3.2 W.heap.size (by rw [World.size_alloc]; omega) hMx).trans (heap_alloc_new _ _)
   obtain ⟨e0, e1, e2, e3, e4, e5, ez, el⟩ := ncells hbx
   have HJ3 := Lib.hid hj3
   clear hy0 hk3 hj3 hbx
   gi_wp2_with fail
   gi_loopw [17] (fun i wr => ∃ j : Nat, j ≤ l.length ∧ i = .int .i64 j ∧ J (s + 1 + (PFx X j).length) wr) (fun i _ => l.length - (intOf i).toNat)
   case atStart => exact ⟨0, Nat.zero_le _, rfl, HJ3.out⟩
   case round =>
    obtain ⟨j, hj, rfl, hJj⟩ := hrel
    have HJJ := Lib.hid hJj
    obtain ⟨q1, q2⟩ := HK.out _ _ hJj
    clear hJj
    by_cases hlt : j < l.length
    · obtain ⟨x, hx⟩ : ∃ x, l[j]? = some x := ⟨_, List.getElem?_eq_getElem hlt⟩
      obtain ⟨b, off, rx, rfl, hbb, hrx, hmx, c0, c1, c2, c3, c4, c5⟩ := kid_at (w := wr) (HR.out.1.keep fun p hp => q1 p hp) HR.out.2.1 (fun i y ry hy hry => (HR.out.2.2 i y ry hy hry).keep fun p hp => q1 p hp) hx
      have hb1 : b < wr.heap.size := by omega
      clear q1
      obtain ⟨_, hEC⟩ := HX.out j hlt x rx hx hrx
      have HE := Lib.hid (hEC lp J Jx M (wr.alloc (.cells #[.int .i64 rx.kind, .int .i64 rx.fr, .int .i64 rx.en, .int .i64 rx.at_, .string rx.name, .slice rx.A rx.n rx.cap] 24)) (s + 1 + (PFx X j).length)
       HM.out HJ.out HJX.out (fun k W1 h => HK.out k W1 h)
       (fun k W1 h hk y hy => HY.out k W1 h (by omega) y (by
        obtain ⟨m, rfl⟩ : ∃ m, k = s + 1 + (PFx X j).length + m := ⟨k - (s + 1 + (PFx X j).length), by omega⟩
        rw [show s + 1 + (PFx X j).length + m - s = (PFx X j).length + m + 1 by omega, List.getElem?_cons_succ]
        exact PFx_at X (by rwa [Nat.add_sub_cancel_left] at hy) _ hlt))
       (HJ.out _ _ _ HJJ.out ((Below.refl _ _).alloc (Nat.le_refl _) _)))
      unfold RN.val at HE
      clear hmx hrx hEC hx
      gi_wp2_with (refine ⟨trivial, rfl, ?_⟩; gi_at_call 49; refine (callsIn_wide.2 HE.out).mono ?_)
      rintro e W5 (⟨rfl, hj5⟩ | ⟨rfl, hj5⟩)
      · have HJ5 := Lib.hid hj5
        clear hj5
        gi_wp2_with fail
        go_roundw
        case rel => exact ⟨j + 1, by omega, by go_num, by rw [PFx_succ, List.length_append, ← Nat.add_assoc]; exact HJ5.out⟩
        case measure => simp only [intOf]; omega
      · have HJ5 := Lib.hid hj5
        clear hj5
        gi_wp2_with fail
        go_ret
        exact .inr ⟨rfl, HJ5.out⟩
    · have hjl : j = l.length := by omega
      clear q1
      have HJ6 := Lib.hid (show J (s + (PFx X l.length).length + 1) wr by rw [← hjl, show s + (PFx X j).length + 1 = s + 1 + (PFx X j).length by omega]; exact HJJ.out)
      clear hjl
      gi_wp2_with fail
      go_ret
      exact .inl ⟨rfl, HJ6.out⟩
 · have HJ3 := Lib.hid hj3
   clear hy0 hj3
   gi_wp2_with fail
   go_ret
   exact .inr ⟨rfl, HJ3.out⟩
section
attribute [local go_sem] Oper.semAt_some
def r0N : RN := ⟨0, 0, 0, 0, ⟨#[]⟩, none, 0, 0⟩
def elN (rs : List RN) (k : Nat) : RN := rs[k]?.getD r0N
theorem elN_at {rs : List RN} {k : Nat} {y : RN} (h : rs[k]? = some y) : elN rs k = y := by unfold elN; rw [h]; rfl
def KKe (w : World) (B : Nat) (bx : Nat) (r : RN) (W : World) : Prop := W.heap[bx]? = some (boxC r) ∧ (∀ p : Addr, p.block < B → W.cell? p = w.cell? p) ∧ B ≤ W.heap.size
theorem each_hands {w : World} {B : Nat} {r : RN} {rs : List RN} (hE : EachC w B r rs) (bx : Nat) : Hands2 Tryz.prog 48 #[.pointer (some ⟨bx, 0, none⟩)] rs.length (fun k => (elN rs k).val) (KKe w B bx r) := by
 intro lp J Jx M W hM hJ hJx hK hY h0
 obtain ⟨k1, k2, k3⟩ := (hK 0 W h0).1
 have HC := Lib.hid (hE lp J Jx M W 0 (fun k W1 h b hb => by have := hM b hb; have := (hK k W1 h).2; omega) hJ hJx (fun k W1 h => (hK k W1 h).1.2)
  (fun k W1 h _ y hy => by
   rw [Nat.sub_zero] at hy
   have := hY k W1 h (List.getElem?_eq_some_iff.1 hy).1
   have e := elN_at hy
   change YieldAt Fence.wide 0 Tryz.prog lp #[(elN rs k).val] W1 _ at this
   rw [e] at this
   exact this) h0)
 obtain ⟨e0, e1, e2, e3, e4, e5, ez, el⟩ := ncells k1
 unfold RN.val at HC
 clear hM hJ hJx hK hY h0 k1 k2 k3
 go_enter Tryz.func48, Tryz.ntmps48
 go_wp2_with (go_at_call 49; refine HC.out.mono ?_)
 rintro e W5 (⟨rfl, hj5⟩ | ⟨rfl, hj5⟩)
 · have HJ5 := Lib.hid hj5
   clear hj5
   go_wp2_with fail
   go_end0
   exact ⟨⟨_, rfl⟩, .inl (by have := HJ5.out; rwa [Nat.zero_add] at this)⟩
 · have HJ5 := Lib.hid hj5
   clear hj5
   go_wp2_with fail
   go_end0
   exact ⟨⟨_, rfl⟩, .inr HJ5.out⟩
theorem aEach (r : RN) (w : World) : Calls Tryz.prog 23 #[r.val] w fun e w' => e = .returned (.func (.func 48) #[] #[.pointer (some ⟨w.heap.size, 0, none⟩)]) ∧ w' = w.alloc (boxC r) := by
 unfold RN.val
 go_enter Tryz.func23, Tryz.ntmps23
 go_wp2_with fail
 go_ret
 exact ⟨rfl, rfl⟩
mutual
theorem each_mem_cost : ∀ (t : Tree) (x : Tree), x ∈ eachV t → costT x ≤ costT t
 | .mk k f e a n l => fun x hx => by
  rw [eachV] at hx
  split at hx
  · simp at hx
  · rcases List.mem_cons.1 hx with rfl | hx
    · exact Nat.le_refl _
    · have := eachL_mem_cost l x hx
      rw [costT]; omega
theorem eachL_mem_cost : ∀ (l : List Tree) (x : Tree), x ∈ eachL l → costT x ≤ costL l
 | [] => fun x hx => by simp [eachL] at hx
 | t :: l => fun x hx => by
  rw [eachL] at hx
  rw [costL]
  rcases List.mem_append.1 hx with hx | hx
  · have := each_mem_cost t x hx; omega
  · have := eachL_mem_cost l x hx; omega
end
theorem load_bool {w : World} {b : Nat} {v : Value} (h : w.heap[b]? = some (.cells #[v] 4 (0, 0))) : (loadVar 4 ⟨b, 0, none⟩).run Tryz.prog w = .ok v w := by
 have c0 := (cell1 h).1
 have ha := Tryz.isAgg4 w
 simp only [loadVar, Sem.run_bind, ha, Result.andThen_ok]
 show (Sem.run Tryz.prog (load ⟨b, 0, none⟩) w) = _
 rw [run_load, c0]
theorem end_cell {fn : Func} {p : Tmp} (hres : fn.results = #[.cell p 4]) {tmps : Array Value} {b D : Nat} {v : Value} {w : World} {R : Ending → World → Prop} (hp : tmps.getD p undef = .pointer (some ⟨b, 0, none⟩))
  (hb : w.heap[b]? = some (.cells #[v] 4 (0, 0))) (hd : w.heap[D]? = some (.deferred (some []))) (hR : R (.returned v) (w.putObj D (.deferred none))) :
  bodyPostM Fence.wide 0 Tryz.prog fn R .ret { tmps := tmps, defers := [{ target := .collected D, args := #[] }] } w := by
 have hne : b ≠ D := fun e => by rw [e, hd] at hb; cases hb
 refine ⟨by simp, .inl ⟨_, _, rfl, run_takeDeferred hd, ?_⟩⟩
 refine ⟨v, ?_, hR⟩
 have h1 : (w.putObj D (.deferred none)).heap[b]? = some (.cells #[v] 4 (0, 0)) := (World.putObj_heap_other hne).trans hb
 have hp' : tmps[p]?.getD undef = .pointer (some ⟨b, 0, none⟩) := by rw [← hp]; simp
 simp only [results, hres]
 simp [Sem.run_bind, Result.andThen, hp', asAddr, load_bool h1]
theorem KidsM_of {w W : World} {B : Nat} {t : Tree} {r : RN} (h : NodeM w B t r) (hk : ∀ p : Addr, p.block < B → W.cell? p = w.cell? p) (hB : B ≤ W.heap.size) : NodeM W W.heap.size t r := (h.keep hk).more hB
theorem aPlaced (size : Int) (t : Tree) (r : RN) (w : World) (hm : NodeM w w.heap.size t r) (hc : costT t ≤ 3000) :
  Calls Tryz.prog 26 #[r.val, .int .i64 size] w fun e w' => e = .returned (.bool (placedV size t)) ∧ Below w.heap.size w w' := by
 obtain ⟨rs, hrl, hE⟩ := aeach w w.heap.size t r hm hc
 have hEA := aEach r
 unfold RN.val at hEA ⊢
 refine (callsIn_wide (n := 0)).1 (callsIn_of_wp_marks Tryz.func26 rfl trivial ?_)
 simp only [Tryz.ntmps26, List.size_toArray, List.length_cons, List.length_nil, Nat.reduceAdd, Nat.reduceSub, Array.replicate_succ, Array.replicate_zero, List.push_toArray, List.append_toArray, List.nil_append, List.cons_append]
 gi_wp2_with (refine ⟨trivial, rfl, ?_⟩; first | (gi_at_call 23; refine (callsIn_wide.2 (hEA _)).mono ?_; rintro e w1 ⟨rfl, rfl⟩))
 apply wide_range3 (gf := 48) (lb := #[.pointer (some ⟨w.heap.size + 1 + 1 + 1, 0, none⟩)]) rfl (Go.Proofs.enters_of Tryz.func48 (by kernel_rfl) rfl)
  (each_hands hE (w.heap.size + 1 + 1 + 1))
  (fun k W => (∀ i x, i < k → (eachV t)[i]? = some x → tightV size x = true) ∧ KKe w w.heap.size (w.heap.size + 1 + 1 + 1) r W ∧ W.heap[w.heap.size + 1]? = some (.cells #[.int .i64 size] 3 (0, 0)) ∧ W.heap[w.heap.size + 1 + 1]? = some (.cells #[.bool false] 4 (0, 0)) ∧ Below w.heap.size w W)
  (fun c W => c = .ret ∧ placedV size t = false ∧ W.heap[w.heap.size + 1 + 1]? = some (.cells #[.bool false] 4 (0, 0)) ∧ Below w.heap.size w W)
  (fun b => b = w.heap.size + 1 + 1)
  (a₁ := fun k b => { tmps := #[.agg #[.int .i64 r.kind, .int .i64 r.fr, .int .i64 r.en, .int .i64 r.at_, .string r.name, .slice r.A r.n r.cap], .int .i64 size, .pointer (some ⟨w.heap.size, 0, none⟩), .pointer (some ⟨w.heap.size + 1, 0, none⟩), .pointer (some ⟨w.heap.size + 1 + 1, 0, none⟩), .pointer (some ⟨b, 0, none⟩),
   .agg #[.int .i64 r.kind, .int .i64 r.fr, .int .i64 r.en, .int .i64 r.at_, .string r.name, .slice r.A r.n r.cap], .func (.func 48) #[] #[.pointer (some ⟨w.heap.size + 1 + 1 + 1, 0, none⟩)], (elN rs k).val, undef, undef, undef, undef], defers := [] })
  (ob := fun k => boxC (elN rs k))
 case hMc => rintro b rfl; simp
 case hI =>
  rintro k W W' ⟨h1, ⟨h2, h3, h4⟩, h5, h6, h7⟩ hb
  simp only [World.size_alloc] at hb
  exact ⟨h1, ⟨(hb.block _ (by omega)).trans h2, fun p hp => (hb.cell (by omega)).trans (h3 p hp), Nat.le_trans h4 hb.size⟩, (hb.block _ (by omega)).trans h5, (hb.block _ (by omega)).trans h6, h7.trans (hb.mono (by omega))⟩
 case hIx =>
  rintro c W W' ⟨h1, h2, h3, h4⟩ hb
  simp only [World.size_alloc] at hb
  exact ⟨h1, h2, (hb.block _ (by omega)).trans h3, h4.trans (hb.mono (by omega))⟩
 case hKK => exact fun k W h => h.2.1
 case hassign =>
  intro lp k W K hK
  simp only [RN.val] at hK ⊢
  gi_wp2
  exact hK
 case hbody =>
  rintro lp k b W ⟨h1, ⟨h2, h3, h4⟩, h5, h6, h7⟩ hk hb hwb
  obtain ⟨x, hx⟩ : ∃ x, (eachV t)[k]? = some x := ⟨_, List.getElem?_eq_getElem (by rw [← hrl.1]; exact hk)⟩
  obtain ⟨y, hy⟩ : ∃ y, rs[k]? = some y := ⟨_, List.getElem?_eq_getElem hk⟩
  have hm2 := KidsM_of (hrl.2 k x y hx hy) h3 h4
  have HT := Lib.hid (aTight size x y W hm2 (Nat.le_trans (each_mem_cost t x (List.mem_of_getElem? hx)) hc))
  rw [elN_at hy] at hb ⊢
  unfold RN.val at HT ⊢
  obtain ⟨e0, e1, e2, e3, e4, e5, ez, el⟩ := ncells hb
  obtain ⟨g0, gz, gl⟩ := cell1 h6
  obtain ⟨f0, fz, fl⟩ := cell1 h5
  have H1 := Lib.hid h1
  have HKK := Lib.hid (show KKe w w.heap.size (w.heap.size + 1 + 1 + 1) r W from ⟨h2, h3, h4⟩)
  have H5 := Lib.hid h5
  have H6 := Lib.hid h6
  have H7 := Lib.hid h7
  have HX := Lib.hid hx
  clear h1 h2 h3 h4 h5 h6 h7 hm2 hb hx hy
  cases hq : tightV size x with
  | true =>
   rw [hq] at HT
   gi_wp2_with (refine ⟨trivial, rfl, ?_⟩; gi_at_call 52; refine (callsIn_wide.2 HT.out).mono ?_; rintro e w3 ⟨rfl, hb3⟩)
   refine ⟨.of_below hb3, fun i z hi hz => ?_, ⟨(hb3.block _ ?_).trans HKK.out.1, fun p hp => (hb3.cell ?_).trans (HKK.out.2.1 p hp), Nat.le_trans HKK.out.2.2 hb3.size⟩, nb_below H5.out hb3, nb_below H6.out hb3, H7.out.trans (hb3.mono ?_)⟩
   · rcases Nat.lt_or_ge i k with h | h
     · exact H1.out i z h hz
     · obtain rfl : i = k := by omega
       have := HX.out
       rw [hz] at this; cases this
       exact hq
   · exact (Array.getElem?_eq_some_iff.1 HKK.out.1).1
   · have := HKK.out.2.2; omega
   · exact HKK.out.2.2
  | false =>
   rw [hq] at HT
   have HV := Lib.hid (show placedV size t = false by
    rw [Bool.eq_false_iff]; intro ha
    have := List.all_eq_true.1 ha x (List.mem_of_getElem? HX.out)
    rw [hq] at this; cases this)
   gi_wp2_with (refine ⟨trivial, rfl, ?_⟩; gi_at_call 52; refine (callsIn_wide.2 HT.out).mono ?_; rintro e w3 ⟨rfl, hb3⟩; obtain ⟨q0, qz, ql⟩ := cell1 (nb_below H6.out hb3))
   exact ⟨(Kept.of_below hb3).trans (Kept.setCell _ _ _ _ rfl), rfl, HV.out, set_heap (nb_below H6.out hb3), (H7.out.trans (hb3.mono HKK.out.2.2)).setCell (p := ⟨w.heap.size + 1 + 1, 0, none⟩) (by simp; omega) _⟩
 case hdone =>
  rintro D W hD ⟨h1, ⟨h2, h3, h4⟩, h5, h6, h7⟩ hd
  obtain ⟨g0, gz, gl⟩ := cell1 h6
  simp only [World.size_alloc] at hD
  have HV := Lib.hid (show placedV size t = true from List.all_eq_true.2 fun x hx => by
   obtain ⟨i, hi, e⟩ := List.getElem_of_mem hx
   exact h1 i x (by rw [hrl.1]; exact hi) (by rw [List.getElem?_eq_getElem hi, e]))
  have HD := Lib.hid hd
  have H6 := Lib.hid h6
  have H7 := Lib.hid h7
  clear h1 h2 h3 h4 h5 h6 h7 hd hrl hE hEA hm
  gi_wp2
  have hne : D ≠ w.heap.size + 1 + 1 := by omega
  refine end_cell rfl rfl (b := w.heap.size + 1 + 1) (set_heap H6.out) ((set_other hne).trans HD.out) ?_
  exact ⟨ret_bool HV.out.symm, (H7.out.setCell (p := ⟨w.heap.size + 1 + 1, 0, none⟩) (by simp; omega) _).trans (below_putObj _ _ _ (by omega))⟩
 case hstop =>
  rintro D c W hD ⟨rfl, h1, h2, h3⟩ hd
  simp only [World.size_alloc] at hD
  have HV := Lib.hid h1
  have HD := Lib.hid hd
  have H6 := Lib.hid h2
  have H7 := Lib.hid h3
  clear h1 h2 h3 hd hrl hE hEA hm
  gi_wp2
  refine end_cell rfl rfl (b := w.heap.size + 1 + 1) H6.out HD.out ?_
  exact ⟨ret_bool HV.out.symm, H7.out.trans (below_putObj _ _ _ (by omega))⟩
 case h0 =>
  refine ⟨fun i x h => by omega, ⟨?_, fun p hp => ?_, ?_⟩, ?_, ?_, ?_⟩
  · have := heap_alloc_new (((w.alloc (boxC r)).alloc (.cells #[.int .i64 size] 3)).alloc (.cells #[.bool false] 4)) (boxC r)
    simp only [World.size_alloc] at this
    exact this
  · rw [World.cell?_alloc_lt _ _ _ (by simp; omega), World.cell?_alloc_lt _ _ _ (by simp; omega), World.cell?_alloc_lt _ _ _ (by simp; omega), World.cell?_alloc_lt _ _ _ hp]
  · simp; omega
  · refine nb_alloc (nb_alloc ?_)
    have := heap_alloc_new (w.alloc (boxC r)) (.cells #[.int .i64 size] 3)
    simp only [World.size_alloc] at this
    exact this
  · refine nb_alloc ?_
    have := heap_alloc_new ((w.alloc (boxC r)).alloc (.cells #[.int .i64 size] 3)) (.cells #[.bool false] 4)
    simp only [World.size_alloc] at this
    exact this
  · exact (((((Below.refl _ _).alloc (Nat.le_refl _) _).alloc (by simp) _).alloc (by simp; omega) _).alloc (by simp; omega) _)
end
theorem kids_of {W0 W w1 : World} {B : Nat} {A : Option Addr} {L : List Tree} {rs : List RN} (h0 : B ≤ W0.heap.size) (hb1 : Below W.heap.size W w1) (hrow : RowOf RN.cells 6 w1 w1.heap.size A rs) (hrl : ReadL W B L rs) (hW : Below W0.heap.size W0 W := by repeat (first | exact zR _ | assumption | apply zA | apply zD | refine zT ?_ (by assumption))) : KidsM w1 w1.heap.size A L := by
 have h1 := hW.size
 have h2 := hb1.size
 exact ⟨rs, hrow, hrl.1, fun i x rx hx hrx => ((hrl.2 i x rx hx hrx).under hb1 (by omega)).more (by omega)⟩
section
theorem func_nil (f : Fn) (a b : Array Value) (W : World) : (binOp .eql 37 (.func f a b) .nilFunc).run Tryz.prog W = .ok (.bool false) W := by kernel_rfl
attribute [local go_sem] Oper.semAt_some func_nil
theorem end_cell0 {fn : Func} {p : Tmp} (hres : fn.results = #[.cell p 4]) {tmps : Array Value} {b : Nat} {v : Value} {w : World} {R : Ending → World → Prop} (hp : tmps.getD p undef = .pointer (some ⟨b, 0, none⟩))
  (hb : w.heap[b]? = some (.cells #[v] 4 (0, 0))) (hR : R (.returned v) w) : bodyPostM Fence.wide 0 Tryz.prog fn R .ret { tmps := tmps, defers := [] } w := by
 refine ⟨v, ?_, hR⟩
 have hp' : tmps[p]?.getD undef = .pointer (some ⟨b, 0, none⟩) := by rw [← hp]; simp
 simp only [results, hres]
 simp [Sem.run_bind, Result.andThen, hp', asAddr, load_bool hb]
theorem lawNodes (size m : Int) (hm0 : 0 ≤ m) (hm1 : m ≤ 65535) (t : Tree) (r : RN) (w : World) (hG : LexG w) (hm : NodeM w w.heap.size t r) (hf : fineT t) :
  Calls Tryz.prog 8 #[r.val, .int .i64 size, .int .u16 m] w fun e w' => e = .returned (.bool true) ∧ Below w.heap.size w w' := by
 obtain ⟨W0, hW0⟩ : ∃ W0, ((w.alloc (boxC r)).alloc (.cells #[.int .u16 m] 35)).alloc (.cells #[.bool false] 4) = W0 := ⟨_, rfl⟩
 have HX := Lib.hid (show W0.heap[w.heap.size]? = some (boxC r) ∧ W0.heap[w.heap.size + 1]? = some (.cells #[.int .u16 m] 35 (0, 0)) ∧ W0.heap[w.heap.size + 1 + 1]? = some (.cells #[.bool false] 4 (0, 0)) by
  rw [← hW0]; exact ⟨nb_alloc (nb_alloc (heap_alloc_new _ _)), nb_alloc (new_at (by simp)), new_at (by simp)⟩)
 have HB := Lib.hid (show Below w.heap.size w W0 by rw [← hW0]; exact zA (zA (zA (zR _))))
 have HM := Lib.hid (fun W (hb : Below W0.heap.size W0 W) => hm.under (below_then HB.out hb) (Nat.le_refl _))
 have HN := Lib.hid (fun W (hb : Below W0.heap.size W0 W) => hm.after (Nat.le_refl _) (below_then HB.out hb))
 have HW := Lib.hid (fun W (hb : Below W0.heap.size W0 W) => aWorks W ((hG.below HB.out).below hb))
 have HF := Lib.hid (fun W (hb : Below W0.heap.size W0 W) => aFew t r W (HN.out W hb) hf)
 have hcost : decide (0 < sizeV 3000 t) = true → costT t ≤ 3000 := fun h => few_cost (of_decide_eq_true h)
 generalize decide (0 < sizeV 3000 t) = d at *
 obtain ⟨e0, e1, e2, e3, e4, e5, ez, el⟩ := ncells HX.out.1
 obtain ⟨m0, mz, ml⟩ := cell1 HX.out.2.1
 obtain ⟨b0, bz, bl⟩ := cell1 HX.out.2.2
 cases d with
 | false =>
  clear hcost
  unfold RN.val at HF ⊢
  unfold boxC at hW0
  refine (callsIn_wide (n := 0)).1 (callsIn_of_wp_marks Tryz.func8 rfl trivial ?_)
  simp only [Tryz.ntmps8, List.size_toArray, List.length_cons, List.length_nil, Nat.reduceAdd, Nat.reduceSub, Array.replicate_succ, Array.replicate_zero, List.push_toArray, List.append_toArray, List.nil_append, List.cons_append]
  gi_wp2_with (refine ⟨trivial, rfl, ?_⟩; first | (gi_at_call 11; refine (callsIn_wide.2 (HF.out _ (Below.refl _ _))).mono ?_; rintro e wA ⟨rfl, hbA⟩) | (gi_at_call 12; refine (callsIn_wide.2 (HW.out _ hbA)).mono ?_; rintro e wB ⟨rfl, hbB⟩; obtain ⟨q0, qz, ql⟩ := cell1 (nb_below HX.out.2.2 (below_then hbA hbB))))
  refine end_cell0 rfl rfl (b := w.heap.size + 1 + 1) (set_heap (nb_below HX.out.2.2 (below_then hbA hbB))) ⟨rfl, ?_⟩
  exact (below_then HB.out (below_then hbA hbB)).setCell (p := ⟨w.heap.size + 1 + 1, 0, none⟩) (by simp; omega) _
 | true =>
  have hc := hcost rfl
  clear hcost
  obtain ⟨rs, hrl, hE⟩ := aeach w w.heap.size t r hm hc
  have HE := Lib.hid (fun W (hb : Below W0.heap.size W0 W) => rEach t r W w.heap.size (HM.out W hb) (below_then HB.out hb).size hc)
  have hEA := aEach r
  have HCO := Lib.hid (fun x hx => Nat.le_trans (each_mem_cost t x hx) hc)
  have hle := Nat.le_trans (each_cost t) hc
  have HPA := Lib.hid (fun W (hb : Below W0.heap.size W0 W) => aPlaced size t r W (HN.out W hb) hc)
  have HPR := Lib.hid (fun W (hb : Below W0.heap.size W0 W) => rPlaced size t r W (HN.out W hb) hc)
  rw [placed_eq] at HPR
  generalize placedV size t = pl at *
  generalize eachV t = L at *
  clear hG hf hc
  unfold RN.val at HF HE HPA HPR hEA ⊢
  unfold boxC at hW0
  refine (callsIn_wide (n := 0)).1 (callsIn_of_wp_marks Tryz.func8 rfl trivial ?_)
  simp only [Tryz.ntmps8, List.size_toArray, List.length_cons, List.length_nil, Nat.reduceAdd, Nat.reduceSub, Array.replicate_succ, Array.replicate_zero, List.push_toArray, List.append_toArray, List.nil_append, List.cons_append]
  gi_wp2_with (refine ⟨trivial, rfl, ?_⟩; first | (gi_at_call 11; refine (callsIn_wide.2 (HF.out _ (Below.refl _ _))).mono ?_; rintro e wA ⟨rfl, hbA⟩; clear e0 e1 e2 e3 e4 e5 ez el m0 mz ml b0 bz bl; obtain ⟨e0, e1, e2, e3, e4, e5, ez, el⟩ := ncells (nb_below HX.out.1 hbA)) | (gi_at_call 25; refine (callsIn_wide.2 (HE.out _ hbA)).mono ?_; rintro e w1 ⟨⟨A, cap, rr, rfl, hrow, hrd, hnn⟩, hb1⟩; have HR := Lib.hid (kids_of HB.out.size hb1 hrow hrd (zT hbA (zR _))); clear hrow hrd hnn e0 e1 e2 e3 e4 e5 ez el; have HB1 := Lib.hid (below_then hbA hb1); clear hbA hb1; obtain ⟨e0, e1, e2, e3, e4, e5, ez, el⟩ := ncells (nb_below HX.out.1 HB1.out)) | (gi_at_call 23; refine (callsIn_wide.2 (hEA _)).mono ?_; rintro e w2 ⟨rfl, rfl⟩))
  have hsz1 := HB1.out.size
  have hszb := HB.out.size
  have hzw : w.heap.size + 1 + 1 < W0.heap.size := (Array.getElem?_eq_some_iff.1 HX.out.2.2).1
  have hN : rs.length = L.length := hrl.1
  apply wide_range3 (gf := 48) (lb := #[.pointer (some ⟨w1.heap.size + 1 + 1, 0, none⟩)]) rfl (Go.Proofs.enters_of Tryz.func48 (by kernel_rfl) rfl) (each_hands hE (w1.heap.size + 1 + 1))
   (fun k W => Below w1.heap.size w1 W ∧ W.heap[w1.heap.size]? = some (.cells #[.slice A L.length cap] 22 (0, 0)) ∧ W.heap[w1.heap.size + 1]? = some (.cells #[.int .i64 (k : Nat)] 3 (0, 0)) ∧ W.heap[w1.heap.size + 1 + 1]? = some (boxC r))
   (fun c W => c = .exit 0 ∧ Below w1.heap.size w1 W ∧ W.heap[w1.heap.size]? = some (.cells #[.slice A L.length cap] 22 (0, 0)) ∧ W.heap[w1.heap.size + 1]? = some (.cells #[.int .i64 m] 3 (0, 0)))
   (fun b => b = w1.heap.size + 1)
   (a₁ := fun k b => { tmps := #[.agg #[.int .i64 r.kind, .int .i64 r.fr, .int .i64 r.en, .int .i64 r.at_, .string r.name, .slice r.A r.n r.cap], .int .i64 size, .int .u16 m, .pointer (some ⟨w.heap.size, 0, none⟩), undef, .pointer (some ⟨w.heap.size + 1, 0, none⟩), .pointer (some ⟨w.heap.size + 1 + 1, 0, none⟩), .pointer (some ⟨w1.heap.size, 0, none⟩), .pointer (some ⟨w1.heap.size + 1, 0, none⟩), .func (.func 48) #[] #[.pointer (some ⟨w1.heap.size + 1 + 1, 0, none⟩)], .pointer (some ⟨b, 0, none⟩), .agg #[.int .i64 r.kind, .int .i64 r.fr, .int .i64 r.en, .int .i64 r.at_, .string r.name, .slice r.A r.n r.cap], .bool true, .bool false, undef, .agg #[.int .i64 r.kind, .int .i64 r.fr, .int .i64 r.en, .int .i64 r.at_, .string r.name, .slice r.A r.n r.cap], .slice A L.length cap, .agg #[.int .i64 r.kind, .int .i64 r.fr, .int .i64 r.en, .int .i64 r.at_, .string r.name, .slice r.A r.n r.cap], .func (.func 48) #[] #[.pointer (some ⟨w1.heap.size + 1 + 1, 0, none⟩)], .func (.func 48) #[] #[.pointer (some ⟨w1.heap.size + 1 + 1, 0, none⟩)], .bool false, .func (.func 48) #[] #[.pointer (some ⟨w1.heap.size + 1 + 1, 0, none⟩)], (elN rs k).val, undef, undef, undef, undef, undef, undef, undef, undef, undef, undef, undef, undef, undef, undef, undef, undef, undef, undef, undef, undef, undef, undef, undef, undef, undef, undef, undef, undef, undef, undef, undef, undef, undef, undef, undef, undef, undef, undef, undef, undef, undef], defers := [] })
   (ob := fun k => boxC (elN rs k))
  case hMc => rintro b rfl; simp
  case hI =>
   rintro k W W' ⟨h1, h2, h3, h4⟩ hb
   simp only [World.size_alloc] at hb
   exact ⟨h1.trans (hb.mono (by omega)), (hb.block _ (by omega)).trans h2, (hb.block _ (by omega)).trans h3, (hb.block _ (by omega)).trans h4⟩
  case hIx =>
   rintro c W W' ⟨h1, h2, h3, h4⟩ hb
   simp only [World.size_alloc] at hb
   exact ⟨h1, h2.trans (hb.mono (by omega)), (hb.block _ (by omega)).trans h3, (hb.block _ (by omega)).trans h4⟩
  case hKK =>
   rintro k W ⟨h1, h2, h3, h4⟩
   have hz := h1.size
   refine ⟨h4, fun p hp => ?_, by omega⟩
   exact (h1.cell (by omega)).trans ((HB1.out.cell (by omega)).trans (HB.out.cell hp))
  case h0 => exact ⟨zA (zA (zA (zR _))), nb_alloc (nb_alloc (heap_alloc_new _ _)), nb_alloc (new_at (by simp)), new_at (by simp)⟩
  case hassign =>
   intro lp k W K hK
   simp only [RN.val] at hK ⊢
   gi_wp2
   exact hK
  case hbody =>
   rintro lp k b W ⟨h1, h2, h3, h4⟩ hk hb hwb
   obtain ⟨x, hx⟩ : ∃ x, L[k]? = some x := ⟨_, List.getElem?_eq_getElem (by omega)⟩
   obtain ⟨y, hy⟩ : ∃ y, rs[k]? = some y := ⟨_, List.getElem?_eq_getElem hk⟩
   have hz := h1.size
   have hm2 := (KidsM_of (hrl.2 k x y hx hy) (fun p hp => (h1.cell (by omega)).trans ((HB1.out.cell (by omega)).trans (HB.out.cell hp))) (by omega) : NodeM W W.heap.size x y)
   obtain ⟨br, off, ry, rfl, hbb, hmy, c0, c1, c2, c3, c4, c5⟩ := (HR.out.later h1 (Nat.le_refl _)).at hx
   have HT := Lib.hid (fun W' (hb : Below W.heap.size W W') => rEqual x y ry W' (hm2.after (Nat.le_refl _) hb) ((hmy.here hz).after (Nat.le_refl _) hb) (HCO.out x (List.mem_of_getElem? hx)))
   rw [elN_at hy] at hb ⊢
   unfold RN.val at HT ⊢
   obtain ⟨f0, f1, f2, f3, f4, f5, fz, fl⟩ := ncells hb
   obtain ⟨g0, gz, gl⟩ := cell1 h2
   obtain ⟨q0, qz, ql⟩ := cell1 h3
   have HS := Lib.hid (fun W' (hBW : Below W.heap.size W W') => (⟨hBW, (hBW.cell ql).trans q0, (hBW.cell gl).trans g0, (hBW.cell fl).trans f0, (hBW.cell fl).trans f1, (hBW.cell fl).trans f2, (hBW.cell fl).trans f3, (hBW.cell fl).trans f4, (hBW.cell fl).trans f5, (hBW.cell (by show br < _; omega)).trans c0, (hBW.cell (by show br < _; omega)).trans c1, (hBW.cell (by show br < _; omega)).trans c2, (hBW.cell (by show br < _; omega)).trans c3, (hBW.cell (by show br < _; omega)).trans c4, (hBW.cell (by show br < _; omega)).trans c5⟩ : (fun w' => Below W.heap.size W w' ∧ w'.cell? ⟨w1.heap.size + 1, 0, none⟩ = some (.int .i64 (k : Nat)) ∧ w'.cell? ⟨w1.heap.size, 0, none⟩ = some (.slice (some ⟨br, off, none⟩) L.length cap) ∧ w'.cell? ⟨b, 0, none⟩ = some (.int .i64 y.kind) ∧ w'.cell? ⟨b, 1, none⟩ = some (.int .i64 y.fr) ∧ w'.cell? ⟨b, 2, none⟩ = some (.int .i64 y.en) ∧ w'.cell? ⟨b, 3, none⟩ = some (.int .i64 y.at_) ∧ w'.cell? ⟨b, 4, none⟩ = some (.string y.name) ∧ w'.cell? ⟨b, 5, none⟩ = some (.slice y.A y.n y.cap) ∧ w'.cell? ⟨br, off + k * 6, none⟩ = some (.int .i64 ry.kind) ∧ w'.cell? ⟨br, off + k * 6 + 1, none⟩ = some (.int .i64 ry.fr) ∧ w'.cell? ⟨br, off + k * 6 + 2, none⟩ = some (.int .i64 ry.en) ∧ w'.cell? ⟨br, off + k * 6 + 3, none⟩ = some (.int .i64 ry.at_) ∧ w'.cell? ⟨br, off + k * 6 + 4, none⟩ = some (.string ry.name) ∧ w'.cell? ⟨br, off + k * 6 + 5, none⟩ = some (.slice ry.A ry.n ry.cap)) W'))
   have H2 := Lib.hid h2
   have H3 := Lib.hid h3
   have H4 := Lib.hid h4
   have H1 := Lib.hid h1
   have hk2 : k < L.length := by omega
   have hk3 : ¬ (L.length : Int) ≤ (k : Int) := by omega
   have hk4 : ¬ L.length ≤ k := by omega
   have hz2 := hz
   have hW0W := zT HB1.out H1.out
   clear h1 h2 h3 h4 hm2 hmy hb hx hy hE hEA hrl hm e0 e1 e2 e3 e4 e5 ez el c0 c1 c2 c3 c4 c5 f0 f1 f2 f3 f4 f5 fz g0 gz q0 qz
   gi_wp2_with fail
   have HKP := Lib.hid (fun W' (hBW : Below W.heap.size W W') => (show (fun w' => Below W.heap.size W w' ∧ w'.cell? ⟨w1.heap.size + 1, 0, none⟩ = some (.int .i64 (k : Nat)) ∧ w'.cell? ⟨w1.heap.size, 0, none⟩ = some (.slice (some ⟨br, off, none⟩) L.length cap) ∧ w'.cell? ⟨b, 0, none⟩ = some (.int .i64 y.kind) ∧ w'.cell? ⟨b, 1, none⟩ = some (.int .i64 y.fr) ∧ w'.cell? ⟨b, 2, none⟩ = some (.int .i64 y.en) ∧ w'.cell? ⟨b, 3, none⟩ = some (.int .i64 y.at_) ∧ w'.cell? ⟨b, 4, none⟩ = some (.string y.name) ∧ w'.cell? ⟨b, 5, none⟩ = some (.slice y.A y.n y.cap) ∧ w'.cell? ⟨br, off + k * 6, none⟩ = some (.int .i64 ry.kind) ∧ w'.cell? ⟨br, off + k * 6 + 1, none⟩ = some (.int .i64 ry.fr) ∧ w'.cell? ⟨br, off + k * 6 + 2, none⟩ = some (.int .i64 ry.en) ∧ w'.cell? ⟨br, off + k * 6 + 3, none⟩ = some (.int .i64 ry.at_) ∧ w'.cell? ⟨br, off + k * 6 + 4, none⟩ = some (.string ry.name) ∧ w'.cell? ⟨br, off + k * 6 + 5, none⟩ = some (.slice ry.A ry.n ry.cap)) W' from by exact HS.out W' hBW))
   refine zHI (some lp) rfl HKP fun hHeld => ?_
   refine zTk 0 (h := ?_)
   refine zTk 1 (h := ?_)
   refine zTk 2 (h := ?_)
   refine zTk 3 (h := ?_)
   refine zTk 4 (h := ?_)
   refine zTk 5 (h := ?_)
   refine zTk 6 (h := ?_)
   refine zTk 7 (h := ?_)
   refine zTk 8 (h := ?_)
   refine zTk 9 (h := ?_)
   refine zRd 10 (h := fun KK hKK => ?_)
   go_simp
   (refine ((zb HT)).mono ?_; rintro e x1 ⟨rfl, hx1⟩)
   (try go_wp2_with fail)
   refine zKK hKK HKP fun hHeld2 => ?_; clear hKK KK hHeld; rename _ => hHeld
   refine zTk 11 (h := ?_)
   refine zTk 12 (h := ?_)
   refine zDN ?_
   have HE3 := Lib.hid hHeld.1
   clear hHeld
   clear ql gl fl
   have hb0x := zT hW0W HE3.out
   obtain ⟨q0, qz, ql⟩ := cell1 (nb_below H3.out HE3.out)
   obtain ⟨m0, mz, ml⟩ := cell1 (nb_below HX.out.2.1 hb0x)
   have hwm : IntKind.i64.wrap m = m := by rw [IntKind.wrap_i64]; omega
   obtain ⟨k1, hk1⟩ : ∃ k1, k + 1 = k1 := ⟨_, rfl⟩
   have hki : (k : Int) + 1 = (k1 : Int) := by omega
   have hwk : IntKind.i64.wrap (k1 : Int) = (k1 : Int) := by rw [IntKind.wrap_i64]; omega
   have hne7 : w1.heap.size ≠ w1.heap.size + 1 := by omega
   have hne9 : w1.heap.size + 1 + 1 ≠ w1.heap.size + 1 := by omega
   have HK := Lib.hid (And.intro ((Kept.of_below HE3.out).trans (Kept.setCell (fun b => b = w1.heap.size + 1) _ ⟨w1.heap.size + 1, 0, none⟩ (.int .i64 (k1 : Int)) rfl)) (And.intro ((H1.out.trans (HE3.out.mono hz)).setCell (p := ⟨w1.heap.size + 1, 0, none⟩) (by simp) (.int .i64 (k1 : Int))) (And.intro ((set_other (i := 0) (v := .int .i64 (k1 : Int)) hne7).trans (nb_below H2.out HE3.out)) (And.intro (set_heap (i := 0) (v := .int .i64 (k1 : Int)) (nb_below H3.out HE3.out)) ((set_other (i := 0) (v := .int .i64 (k1 : Int)) hne9).trans (nb_below H4.out HE3.out))))))
   by_cases hkm : (k1 : Int) = m
   · have hb1 : ((k1 : Int) == m) = true := beq_iff_eq.2 hkm
     have HKM := Lib.hid hkm
     clear hkm
     gi_wp2_with fail
     have h4 := HK.out.2.2.2.1
     rw [HKM.out] at h4
     exact ⟨HK.out.1, rfl, HK.out.2.1, HK.out.2.2.1, HKM.out ▸ HK.out.2.2.2.1⟩
   · have hb1 : ((k1 : Int) == m) = false := beq_eq_false_iff_ne.2 hkm
     clear hkm
     gi_wp2_with fail
     subst hk1
     exact HK.out
  case hdone =>
   rintro D W hD ⟨h1, h2, h3, h4⟩ hd
   simp only [World.size_alloc] at hD
   have hz := h1.size
   rw [hN] at h3
   have hW0W := zT HB1.out h1
   clear h4
   obtain ⟨e0, e1, e2, e3, e4, e5, ez, el⟩ := ncells (nb_below HX.out.1 hW0W)
   obtain ⟨m0, mz, ml⟩ := cell1 (nb_below HX.out.2.1 hW0W)
   obtain ⟨g0, gz, gl⟩ := cell1 h2
   obtain ⟨q0, qz, ql⟩ := cell1 h3
   have hbb2 := nb_below HX.out.2.2 hW0W
   have hdl := (Array.getElem?_eq_some_iff.1 hd).1
   have HBW := Lib.hid (HB.out.trans (hW0W.mono (by omega)) : Below w.heap.size w W)
   have HS := Lib.hid (fun W' (hBW : Below W.heap.size W W') => (⟨HBW.out.trans (hBW.mono HBW.out.size), (hBW.cell el).trans e0, (hBW.cell el).trans e1, (hBW.cell el).trans e2, (hBW.cell el).trans e3, (hBW.cell el).trans e4, (hBW.cell el).trans e5, (hBW.cell ql).trans q0, (hBW.cell gl).trans g0, (hBW.cell ml).trans m0, nb_below hd hBW, _, nb_below hbb2 hBW⟩ : (fun w' => Below w.heap.size w w' ∧ w'.cell? ⟨w.heap.size, 0, none⟩ = some (.int .i64 r.kind) ∧ w'.cell? ⟨w.heap.size, 1, none⟩ = some (.int .i64 r.fr) ∧ w'.cell? ⟨w.heap.size, 2, none⟩ = some (.int .i64 r.en) ∧ w'.cell? ⟨w.heap.size, 3, none⟩ = some (.int .i64 r.at_) ∧ w'.cell? ⟨w.heap.size, 4, none⟩ = some (.string r.name) ∧ w'.cell? ⟨w.heap.size, 5, none⟩ = some (.slice r.A r.n r.cap) ∧ w'.cell? ⟨w1.heap.size + 1, 0, none⟩ = some (.int .i64 (L.length : Nat)) ∧ w'.cell? ⟨w1.heap.size, 0, none⟩ = some (.slice A L.length cap) ∧ w'.cell? ⟨w.heap.size + 1, 0, none⟩ = some (.int .u16 m) ∧ w'.heap[D]? = some (.deferred (some [])) ∧ ∃ v, w'.heap[w.heap.size + 1 + 1]? = some (.cells #[v] 4 (0, 0))) W'))
   have hwm : IntKind.i64.wrap m = m := by rw [IntKind.wrap_i64]; omega
   have hDb : D ≠ w.heap.size + 1 + 1 := by omega
   clear h1 h2 h3 hd hbb2 hE hEA hrl hm e0 e1 e2 e3 e4 e5 ez g0 gz q0 qz m0 mz
   gi_wp2_with fail
   have HKP := Lib.hid (fun W' (hBW : Below W.heap.size W W') => (show (fun w' => Below w.heap.size w w' ∧ w'.cell? ⟨w.heap.size, 0, none⟩ = some (.int .i64 r.kind) ∧ w'.cell? ⟨w.heap.size, 1, none⟩ = some (.int .i64 r.fr) ∧ w'.cell? ⟨w.heap.size, 2, none⟩ = some (.int .i64 r.en) ∧ w'.cell? ⟨w.heap.size, 3, none⟩ = some (.int .i64 r.at_) ∧ w'.cell? ⟨w.heap.size, 4, none⟩ = some (.string r.name) ∧ w'.cell? ⟨w.heap.size, 5, none⟩ = some (.slice r.A r.n r.cap) ∧ w'.cell? ⟨w1.heap.size + 1, 0, none⟩ = some (.int .i64 (L.length : Nat)) ∧ w'.cell? ⟨w1.heap.size, 0, none⟩ = some (.slice A L.length cap) ∧ w'.cell? ⟨w.heap.size + 1, 0, none⟩ = some (.int .u16 m) ∧ w'.heap[D]? = some (.deferred (some [])) ∧ ∃ v, w'.heap[w.heap.size + 1 + 1]? = some (.cells #[v] 4 (0, 0))) W' from by exact HS.out W' hBW))
   refine zHI none rfl HKP fun hHeld => ?_
   refine zTk 0 (h := ?_)
   refine zTk 1 (h := ?_)
   refine zTk 2 (h := ?_)
   refine zTk 3 (h := ?_)
   refine zTk 4 (h := ?_)
   refine zTn 5 (h := ?_)
   refine zTn 6 (h := ?_)
   refine zTn 7 (h := ?_)
   refine zTn 8 (h := ?_)
   refine zTk 9 (h := ?_)
   refine zTk 10 (h := ?_)
   refine zTk 11 (h := ?_)
   refine zTk 12 (h := ?_)
   refine zTk 14 (h := ?_)
   refine zTk 15 (h := ?_)
   refine zRd 13 (h := fun KK hKK => ?_)
   go_simp
   (refine ((zb HPA)).mono ?_; rintro e x1 ⟨rfl, hx1⟩)
   (try go_wp2_with fail)
   refine zKK hKK HKP fun hHeld2 => ?_; clear hKK KK hHeld; rename _ => hHeld
   refine zRd 16 (h := fun KK hKK => ?_)
   go_simp
   (refine ((zb HPR)).mono ?_; rintro e x2 ⟨rfl, hx2⟩)
   (try go_wp2_with fail)
   refine zKK hKK HKP fun hHeld2 => ?_; clear hKK KK hHeld; rename _ => hHeld
   refine zTk 17 (h := ?_)
   refine zTk 18 (h := ?_)
   refine zTk 19 (h := ?_)
   refine zRd 20 (h := fun KK hKK => ?_)
   go_simp
   (refine ((zb HW)).mono ?_; rintro e x3 ⟨rfl, hx3⟩)
   (try go_wp2_with fail)
   refine zKK hKK HKP fun hHeld2 => ?_; clear hKK KK hHeld; rename _ => hHeld
   refine zTk 21 (h := ?_)
   have HH := Lib.hid hHeld
   obtain ⟨h0, i0, i1, i2, i3, i4, i5, i6, i7, i8, i9, v, i10⟩ := hHeld
   have hco : ∀ (V : Value) (k : Nat), k ≠ w.heap.size + 1 + 1 → ∀ i, ((x3).setCell ⟨w.heap.size + 1 + 1, 0, none⟩ V).cell? ⟨k, i, none⟩ = x3.cell? ⟨k, i, none⟩ := fun V k hk i => World.cell?_of_block (set_other hk)
   have hS2 : ∀ V, (fun w' => Below w.heap.size w w' ∧ w'.cell? ⟨w.heap.size, 0, none⟩ = some (.int .i64 r.kind) ∧ w'.cell? ⟨w.heap.size, 1, none⟩ = some (.int .i64 r.fr) ∧ w'.cell? ⟨w.heap.size, 2, none⟩ = some (.int .i64 r.en) ∧ w'.cell? ⟨w.heap.size, 3, none⟩ = some (.int .i64 r.at_) ∧ w'.cell? ⟨w.heap.size, 4, none⟩ = some (.string r.name) ∧ w'.cell? ⟨w.heap.size, 5, none⟩ = some (.slice r.A r.n r.cap) ∧ w'.cell? ⟨w1.heap.size + 1, 0, none⟩ = some (.int .i64 (L.length : Nat)) ∧ w'.cell? ⟨w1.heap.size, 0, none⟩ = some (.slice A L.length cap) ∧ w'.cell? ⟨w.heap.size + 1, 0, none⟩ = some (.int .u16 m) ∧ w'.heap[D]? = some (.deferred (some [])) ∧ ∃ v, w'.heap[w.heap.size + 1 + 1]? = some (.cells #[v] 4 (0, 0))) (x3.setCell ⟨w.heap.size + 1 + 1, 0, none⟩ V) := fun V => ⟨h0.setCell (p := ⟨w.heap.size + 1 + 1, 0, none⟩) (by simp; omega) V, (hco V _ (by omega) _).trans i0, (hco V _ (by omega) _).trans i1, (hco V _ (by omega) _).trans i2, (hco V _ (by omega) _).trans i3, (hco V _ (by omega) _).trans i4, (hco V _ (by omega) _).trans i5, (hco V _ (by omega) _).trans i6, (hco V _ (by omega) _).trans i7, (hco V _ (by omega) _).trans i8, (set_other hDb).trans i9, _, set_heap i10⟩
   obtain ⟨j0, jz, jl⟩ := cell1 i10
   have HX3 := Lib.hid i10
   have HS2 := Lib.hid hS2
   have HD3 := Lib.hid i9
   have HB3 := Lib.hid h0
   clear h0 i0 i1 i2 i3 i4 i5 i6 i7 i8 i9 i10 hco hS2
   refine zRd 22 (h := fun KK hKK => ?_)
   go_simp
   refine hKK.out _ _ (HS2.out _) (fun hHeld2 => ?_)
   refine zDN ?_
   gi_wp2
   refine end_cell rfl rfl (b := w.heap.size + 1 + 1) (set_heap HX3.out) ((set_other hDb).trans HD3.out) ?_
   exact ⟨rfl, (HB3.out.setCell (p := ⟨w.heap.size + 1 + 1, 0, none⟩) (by simp; omega) _).trans (below_putObj _ _ _ (by omega))⟩
  case hstop =>
   rintro D c W hD ⟨rfl, h1, h2, h3⟩ hd
   simp only [World.size_alloc] at hD
   have hz := h1.size
   have hW0W := zT HB1.out h1
   by_cases hmL : m = (L.length : Int)
   · rw [hmL] at h3
     obtain ⟨e0, e1, e2, e3, e4, e5, ez, el⟩ := ncells (nb_below HX.out.1 hW0W)
     obtain ⟨m0, mz, ml⟩ := cell1 (nb_below HX.out.2.1 hW0W)
     obtain ⟨g0, gz, gl⟩ := cell1 h2
     obtain ⟨q0, qz, ql⟩ := cell1 h3
     have hbb2 := nb_below HX.out.2.2 hW0W
     have hdl := (Array.getElem?_eq_some_iff.1 hd).1
     have HBW := Lib.hid (HB.out.trans (hW0W.mono (by omega)) : Below w.heap.size w W)
     have HS := Lib.hid (fun W' (hBW : Below W.heap.size W W') => (⟨HBW.out.trans (hBW.mono HBW.out.size), (hBW.cell el).trans e0, (hBW.cell el).trans e1, (hBW.cell el).trans e2, (hBW.cell el).trans e3, (hBW.cell el).trans e4, (hBW.cell el).trans e5, (hBW.cell ql).trans q0, (hBW.cell gl).trans g0, (hBW.cell ml).trans m0, nb_below hd hBW, _, nb_below hbb2 hBW⟩ : (fun w' => Below w.heap.size w w' ∧ w'.cell? ⟨w.heap.size, 0, none⟩ = some (.int .i64 r.kind) ∧ w'.cell? ⟨w.heap.size, 1, none⟩ = some (.int .i64 r.fr) ∧ w'.cell? ⟨w.heap.size, 2, none⟩ = some (.int .i64 r.en) ∧ w'.cell? ⟨w.heap.size, 3, none⟩ = some (.int .i64 r.at_) ∧ w'.cell? ⟨w.heap.size, 4, none⟩ = some (.string r.name) ∧ w'.cell? ⟨w.heap.size, 5, none⟩ = some (.slice r.A r.n r.cap) ∧ w'.cell? ⟨w1.heap.size + 1, 0, none⟩ = some (.int .i64 (L.length : Nat)) ∧ w'.cell? ⟨w1.heap.size, 0, none⟩ = some (.slice A L.length cap) ∧ w'.cell? ⟨w.heap.size + 1, 0, none⟩ = some (.int .u16 m) ∧ w'.heap[D]? = some (.deferred (some [])) ∧ ∃ v, w'.heap[w.heap.size + 1 + 1]? = some (.cells #[v] 4 (0, 0))) W'))
     have hwm : IntKind.i64.wrap m = m := by rw [IntKind.wrap_i64]; omega
     have hDb : D ≠ w.heap.size + 1 + 1 := by omega
     clear h1 h2 h3 hd hbb2 hE hEA hrl hm e0 e1 e2 e3 e4 e5 ez g0 gz q0 qz m0 mz
     gi_wp2_with fail
     have HKP := Lib.hid (fun W' (hBW : Below W.heap.size W W') => (show (fun w' => Below w.heap.size w w' ∧ w'.cell? ⟨w.heap.size, 0, none⟩ = some (.int .i64 r.kind) ∧ w'.cell? ⟨w.heap.size, 1, none⟩ = some (.int .i64 r.fr) ∧ w'.cell? ⟨w.heap.size, 2, none⟩ = some (.int .i64 r.en) ∧ w'.cell? ⟨w.heap.size, 3, none⟩ = some (.int .i64 r.at_) ∧ w'.cell? ⟨w.heap.size, 4, none⟩ = some (.string r.name) ∧ w'.cell? ⟨w.heap.size, 5, none⟩ = some (.slice r.A r.n r.cap) ∧ w'.cell? ⟨w1.heap.size + 1, 0, none⟩ = some (.int .i64 (L.length : Nat)) ∧ w'.cell? ⟨w1.heap.size, 0, none⟩ = some (.slice A L.length cap) ∧ w'.cell? ⟨w.heap.size + 1, 0, none⟩ = some (.int .u16 m) ∧ w'.heap[D]? = some (.deferred (some [])) ∧ ∃ v, w'.heap[w.heap.size + 1 + 1]? = some (.cells #[v] 4 (0, 0))) W' from by exact HS.out W' hBW))
     refine zHI none rfl HKP fun hHeld => ?_
     refine zTk 0 (h := ?_)
     refine zTk 1 (h := ?_)
     refine zTk 2 (h := ?_)
     refine zTk 3 (h := ?_)
     refine zTk 4 (h := ?_)
     refine zTn 5 (h := ?_)
     refine zTn 6 (h := ?_)
     refine zTn 7 (h := ?_)
     refine zTn 8 (h := ?_)
     refine zTk 9 (h := ?_)
     refine zTk 10 (h := ?_)
     refine zTk 11 (h := ?_)
     refine zTk 12 (h := ?_)
     refine zTk 14 (h := ?_)
     refine zTk 15 (h := ?_)
     refine zRd 13 (h := fun KK hKK => ?_)
     go_simp
     (refine ((zb HPA)).mono ?_; rintro e x1 ⟨rfl, hx1⟩)
     (try go_wp2_with fail)
     refine zKK hKK HKP fun hHeld2 => ?_; clear hKK KK hHeld; rename _ => hHeld
     refine zRd 16 (h := fun KK hKK => ?_)
     go_simp
     (refine ((zb HPR)).mono ?_; rintro e x2 ⟨rfl, hx2⟩)
     (try go_wp2_with fail)
     refine zKK hKK HKP fun hHeld2 => ?_; clear hKK KK hHeld; rename _ => hHeld
     refine zTk 17 (h := ?_)
     refine zTk 18 (h := ?_)
     refine zTk 19 (h := ?_)
     refine zRd 20 (h := fun KK hKK => ?_)
     go_simp
     (refine ((zb HW)).mono ?_; rintro e x3 ⟨rfl, hx3⟩)
     (try go_wp2_with fail)
     refine zKK hKK HKP fun hHeld2 => ?_; clear hKK KK hHeld; rename _ => hHeld
     refine zTk 21 (h := ?_)
     have HH := Lib.hid hHeld
     obtain ⟨h0, i0, i1, i2, i3, i4, i5, i6, i7, i8, i9, v, i10⟩ := hHeld
     have hco : ∀ (V : Value) (k : Nat), k ≠ w.heap.size + 1 + 1 → ∀ i, ((x3).setCell ⟨w.heap.size + 1 + 1, 0, none⟩ V).cell? ⟨k, i, none⟩ = x3.cell? ⟨k, i, none⟩ := fun V k hk i => World.cell?_of_block (set_other hk)
     have hS2 : ∀ V, (fun w' => Below w.heap.size w w' ∧ w'.cell? ⟨w.heap.size, 0, none⟩ = some (.int .i64 r.kind) ∧ w'.cell? ⟨w.heap.size, 1, none⟩ = some (.int .i64 r.fr) ∧ w'.cell? ⟨w.heap.size, 2, none⟩ = some (.int .i64 r.en) ∧ w'.cell? ⟨w.heap.size, 3, none⟩ = some (.int .i64 r.at_) ∧ w'.cell? ⟨w.heap.size, 4, none⟩ = some (.string r.name) ∧ w'.cell? ⟨w.heap.size, 5, none⟩ = some (.slice r.A r.n r.cap) ∧ w'.cell? ⟨w1.heap.size + 1, 0, none⟩ = some (.int .i64 (L.length : Nat)) ∧ w'.cell? ⟨w1.heap.size, 0, none⟩ = some (.slice A L.length cap) ∧ w'.cell? ⟨w.heap.size + 1, 0, none⟩ = some (.int .u16 m) ∧ w'.heap[D]? = some (.deferred (some [])) ∧ ∃ v, w'.heap[w.heap.size + 1 + 1]? = some (.cells #[v] 4 (0, 0))) (x3.setCell ⟨w.heap.size + 1 + 1, 0, none⟩ V) := fun V => ⟨h0.setCell (p := ⟨w.heap.size + 1 + 1, 0, none⟩) (by simp; omega) V, (hco V _ (by omega) _).trans i0, (hco V _ (by omega) _).trans i1, (hco V _ (by omega) _).trans i2, (hco V _ (by omega) _).trans i3, (hco V _ (by omega) _).trans i4, (hco V _ (by omega) _).trans i5, (hco V _ (by omega) _).trans i6, (hco V _ (by omega) _).trans i7, (hco V _ (by omega) _).trans i8, (set_other hDb).trans i9, _, set_heap i10⟩
     obtain ⟨j0, jz, jl⟩ := cell1 i10
     have HX3 := Lib.hid i10
     have HS2 := Lib.hid hS2
     have HD3 := Lib.hid i9
     have HB3 := Lib.hid h0
     clear h0 i0 i1 i2 i3 i4 i5 i6 i7 i8 i9 i10 hco hS2
     refine zRd 22 (h := fun KK hKK => ?_)
     go_simp
     refine hKK.out _ _ (HS2.out _) (fun hHeld2 => ?_)
     refine zDN ?_
     gi_wp2
     refine end_cell rfl rfl (b := w.heap.size + 1 + 1) (set_heap HX3.out) ((set_other hDb).trans HD3.out) ?_
     exact ⟨rfl, (HB3.out.setCell (p := ⟨w.heap.size + 1 + 1, 0, none⟩) (by simp; omega) _).trans (below_putObj _ _ _ (by omega))⟩
   · have hml : (m == (L.length : Int)) = false := beq_eq_false_iff_ne.2 hmL
     clear hmL
     obtain ⟨e0, e1, e2, e3, e4, e5, ez, el⟩ := ncells (nb_below HX.out.1 hW0W)
     obtain ⟨m0, mz, ml⟩ := cell1 (nb_below HX.out.2.1 hW0W)
     obtain ⟨g0, gz, gl⟩ := cell1 h2
     obtain ⟨q0, qz, ql⟩ := cell1 h3
     have hbb2 := nb_below HX.out.2.2 hW0W
     have hdl := (Array.getElem?_eq_some_iff.1 hd).1
     have HBW := Lib.hid (HB.out.trans (hW0W.mono (by omega)) : Below w.heap.size w W)
     have HS := Lib.hid (fun W' (hBW : Below W.heap.size W W') => (⟨HBW.out.trans (hBW.mono HBW.out.size), (hBW.cell el).trans e0, (hBW.cell el).trans e1, (hBW.cell el).trans e2, (hBW.cell el).trans e3, (hBW.cell el).trans e4, (hBW.cell el).trans e5, (hBW.cell ql).trans q0, (hBW.cell gl).trans g0, (hBW.cell ml).trans m0, nb_below hd hBW, _, nb_below hbb2 hBW⟩ : (fun w' => Below w.heap.size w w' ∧ w'.cell? ⟨w.heap.size, 0, none⟩ = some (.int .i64 r.kind) ∧ w'.cell? ⟨w.heap.size, 1, none⟩ = some (.int .i64 r.fr) ∧ w'.cell? ⟨w.heap.size, 2, none⟩ = some (.int .i64 r.en) ∧ w'.cell? ⟨w.heap.size, 3, none⟩ = some (.int .i64 r.at_) ∧ w'.cell? ⟨w.heap.size, 4, none⟩ = some (.string r.name) ∧ w'.cell? ⟨w.heap.size, 5, none⟩ = some (.slice r.A r.n r.cap) ∧ w'.cell? ⟨w1.heap.size + 1, 0, none⟩ = some (.int .i64 m) ∧ w'.cell? ⟨w1.heap.size, 0, none⟩ = some (.slice A L.length cap) ∧ w'.cell? ⟨w.heap.size + 1, 0, none⟩ = some (.int .u16 m) ∧ w'.heap[D]? = some (.deferred (some [])) ∧ ∃ v, w'.heap[w.heap.size + 1 + 1]? = some (.cells #[v] 4 (0, 0))) W'))
     have hwm : IntKind.i64.wrap m = m := by rw [IntKind.wrap_i64]; omega
     have hDb : D ≠ w.heap.size + 1 + 1 := by omega
     clear h1 h2 h3 hd hbb2 hE hEA hrl hm e0 e1 e2 e3 e4 e5 ez g0 gz q0 qz m0 mz
     gi_wp2_with fail
     have HKP := Lib.hid (fun W' (hBW : Below W.heap.size W W') => (show (fun w' => Below w.heap.size w w' ∧ w'.cell? ⟨w.heap.size, 0, none⟩ = some (.int .i64 r.kind) ∧ w'.cell? ⟨w.heap.size, 1, none⟩ = some (.int .i64 r.fr) ∧ w'.cell? ⟨w.heap.size, 2, none⟩ = some (.int .i64 r.en) ∧ w'.cell? ⟨w.heap.size, 3, none⟩ = some (.int .i64 r.at_) ∧ w'.cell? ⟨w.heap.size, 4, none⟩ = some (.string r.name) ∧ w'.cell? ⟨w.heap.size, 5, none⟩ = some (.slice r.A r.n r.cap) ∧ w'.cell? ⟨w1.heap.size + 1, 0, none⟩ = some (.int .i64 m) ∧ w'.cell? ⟨w1.heap.size, 0, none⟩ = some (.slice A L.length cap) ∧ w'.cell? ⟨w.heap.size + 1, 0, none⟩ = some (.int .u16 m) ∧ w'.heap[D]? = some (.deferred (some [])) ∧ ∃ v, w'.heap[w.heap.size + 1 + 1]? = some (.cells #[v] 4 (0, 0))) W' from by exact HS.out W' hBW))
     refine zHI none rfl HKP fun hHeld => ?_
     refine zTk 0 (h := ?_)
     refine zTk 1 (h := ?_)
     refine zTk 2 (h := ?_)
     refine zTk 3 (h := ?_)
     refine zTk 4 (h := ?_)
     refine zTk 5 (h := ?_)
     refine zTk 6 (h := ?_)
     refine zTk 7 (h := ?_)
     refine zTk 8 (h := ?_)
     refine zTk 9 (h := ?_)
     refine zTk 10 (h := ?_)
     refine zTk 11 (h := ?_)
     refine zTk 12 (h := ?_)
     refine zTk 14 (h := ?_)
     refine zTk 15 (h := ?_)
     refine zRd 13 (h := fun KK hKK => ?_)
     go_simp
     (refine ((zb HPA)).mono ?_; rintro e x1 ⟨rfl, hx1⟩)
     (try go_wp2_with fail)
     refine zKK hKK HKP fun hHeld2 => ?_; clear hKK KK hHeld; rename _ => hHeld
     refine zRd 16 (h := fun KK hKK => ?_)
     go_simp
     (refine ((zb HPR)).mono ?_; rintro e x2 ⟨rfl, hx2⟩)
     (try go_wp2_with fail)
     refine zKK hKK HKP fun hHeld2 => ?_; clear hKK KK hHeld; rename _ => hHeld
     refine zTk 17 (h := ?_)
     refine zTk 18 (h := ?_)
     refine zTk 19 (h := ?_)
     refine zRd 20 (h := fun KK hKK => ?_)
     go_simp
     (refine ((zb HW)).mono ?_; rintro e x3 ⟨rfl, hx3⟩)
     (try go_wp2_with fail)
     refine zKK hKK HKP fun hHeld2 => ?_; clear hKK KK hHeld; rename _ => hHeld
     refine zTk 21 (h := ?_)
     have HH := Lib.hid hHeld
     obtain ⟨h0, i0, i1, i2, i3, i4, i5, i6, i7, i8, i9, v, i10⟩ := hHeld
     have hco : ∀ (V : Value) (k : Nat), k ≠ w.heap.size + 1 + 1 → ∀ i, ((x3).setCell ⟨w.heap.size + 1 + 1, 0, none⟩ V).cell? ⟨k, i, none⟩ = x3.cell? ⟨k, i, none⟩ := fun V k hk i => World.cell?_of_block (set_other hk)
     have hS2 : ∀ V, (fun w' => Below w.heap.size w w' ∧ w'.cell? ⟨w.heap.size, 0, none⟩ = some (.int .i64 r.kind) ∧ w'.cell? ⟨w.heap.size, 1, none⟩ = some (.int .i64 r.fr) ∧ w'.cell? ⟨w.heap.size, 2, none⟩ = some (.int .i64 r.en) ∧ w'.cell? ⟨w.heap.size, 3, none⟩ = some (.int .i64 r.at_) ∧ w'.cell? ⟨w.heap.size, 4, none⟩ = some (.string r.name) ∧ w'.cell? ⟨w.heap.size, 5, none⟩ = some (.slice r.A r.n r.cap) ∧ w'.cell? ⟨w1.heap.size + 1, 0, none⟩ = some (.int .i64 m) ∧ w'.cell? ⟨w1.heap.size, 0, none⟩ = some (.slice A L.length cap) ∧ w'.cell? ⟨w.heap.size + 1, 0, none⟩ = some (.int .u16 m) ∧ w'.heap[D]? = some (.deferred (some [])) ∧ ∃ v, w'.heap[w.heap.size + 1 + 1]? = some (.cells #[v] 4 (0, 0))) (x3.setCell ⟨w.heap.size + 1 + 1, 0, none⟩ V) := fun V => ⟨h0.setCell (p := ⟨w.heap.size + 1 + 1, 0, none⟩) (by simp; omega) V, (hco V _ (by omega) _).trans i0, (hco V _ (by omega) _).trans i1, (hco V _ (by omega) _).trans i2, (hco V _ (by omega) _).trans i3, (hco V _ (by omega) _).trans i4, (hco V _ (by omega) _).trans i5, (hco V _ (by omega) _).trans i6, (hco V _ (by omega) _).trans i7, (hco V _ (by omega) _).trans i8, (set_other hDb).trans i9, _, set_heap i10⟩
     obtain ⟨j0, jz, jl⟩ := cell1 i10
     have HX3 := Lib.hid i10
     have HS2 := Lib.hid hS2
     have HD3 := Lib.hid i9
     have HB3 := Lib.hid h0
     clear h0 i0 i1 i2 i3 i4 i5 i6 i7 i8 i9 i10 hco hS2
     refine zRd 22 (h := fun KK hKK => ?_)
     go_simp
     refine hKK.out _ _ (HS2.out _) (fun hHeld2 => ?_)
     refine zDN ?_
     gi_wp2
     refine end_cell rfl rfl (b := w.heap.size + 1 + 1) (set_heap HX3.out) ((set_other hDb).trans HD3.out) ?_
     exact ⟨rfl, (HB3.out.setCell (p := ⟨w.heap.size + 1 + 1, 0, none⟩) (by simp; omega) _).trans (below_putObj _ _ _ (by omega))⟩
end
end Go.Proofs.YtacdfjlncfidgaaGreatDoor
