/- What this law leans on beside the rest. -/
import Derived.WalkKit
import Derived.Outline
import Derived.Lib.Hide
import Derived.WalkLawsBesides
import Derived.WalkSpells
import Derived.Deep.AppendLies
import Derived.Deep.Draws
import Derived.Laws.OwnMore
import Derived.Maps.AppendAt
import Derived.OwnWalk
import Derived.Deep.QuietTactic
import Derived.BigQuiet
import Derived.RangeFuncOwn
import Derived.RangeFuncCalls
import Derived.RangeFuncLeaves
import Derived.Test.YtacdfjlncfidgaaGreatDoorQA
import Derived.Test.YtacdfjlncfidgaaGreatDoorRA
import Derived.Test.YtacdfjlncfidgaaGreatDoorTB
import Derived.Test.YtacdfjlncfidgaaGreatDoorRB
import Derived.Test.YtacdfjlncfidgaaGreatDoorQB
import Derived.Test.YtacdfjlncfidgaaGreatDoorRE
import Derived.Test.YtacdfjlncfidgaaGreatDoorRD
import Derived.Test.YtacdfjlncfidgaaGreatDoorTD
import Derived.Test.YtacdfjlncfidgaaGreatDoorTO
import Derived.Test.YtacdfjlncfidgaaGreatDoorRQ
import Derived.Test.YtacdfjlncfidgaaGreatDoorRF
namespace Go.Proofs.YtacdfjlncfidgaaGreatDoor
open Go.RowKit
set_option linter.unusedVariables false
set_option linter.unusedSimpArgs false
set_option maxRecDepth 100000
set_option maxHeartbeats 3200000
section
variable {P : Program} {α : Type} {cs : α → List Value} {sz : Nat}
theorem below_grown {B : Nat} {w0 W w' : World} {e : TypeId} {v : Value} {l : List α} (hb : Below B w0 W) (hown : Own cs sz e W B v l) (hB : B ≤ W.heap.size) (hg : W.grownBy w' v.ownBlock) : Below B w0 w' :=
 hb.grown hg hB fun k hk => (hown.lt k hk).1
end
theorem sim_rowsL (k : Int) (head : Bool) : ∀ (l m : List Tree) (i : Nat), SimL l m → rowsL k head i l = rowsL k head i m
 | [], [], i, _ => rfl
 | x :: l, y :: m, i, h => by unfold rowsL; rw [sim_rowsL k head l m (i + 1) h.2.2]
theorem sim_rowsF : ∀ (l m : List Tree) (b : Bool), SimL l m → rowsF b l = rowsF b m
 | [], [], b, _ => rfl
 | x :: l, y :: m, b, h => by
  have e : decide (x.kind = 2) = decide (y.kind = 2) := by rw [decide_eq_decide]; exact h.2.1
  unfold rowsF; rw [e, sim_rowsF l m _ h.2.2]
theorem sim_row (k f t a : Int) (n : BL) (l m : List Tree) (need : Nat) (head : Bool) (h : SimL l m) : rowR (.mk k f t a n l) need head = rowR (.mk k f t a n m) need head := by
 have h1 := sim_rowsL k head l m 0 h
 have h2 := sim_rowsF l m true h
 have h3 := h.empty
 have h4 : varK l = varK m := by
  match l, m, h with
  | [], [], _ => rfl
  | [x], [y], _ => rfl
  | [x, x'], [y, y'], h =>
   have e1 : decide (x.kind ≠ 0) = decide (y.kind ≠ 0) := by rw [decide_eq_decide]; exact not_congr h.1
   have e2 : decide (x'.kind ≠ 0) = decide (y'.kind ≠ 0) := by rw [decide_eq_decide]; exact not_congr h.2.2.1
   show (decide (x.kind ≠ 0) || decide (x'.kind ≠ 0)) = (decide (y.kind ≠ 0) || decide (y'.kind ≠ 0))
   rw [e1, e2]
  | _ :: _ :: _ :: _, _ :: _ :: _ :: _, _ => rfl
 unfold rowR
 simp only [Tree.kind, Tree.kids, Tree.name, h1, h2, h3, h4]
 first | done | rfl
section
variable (nm : BL → Bool) (tok : BL → Int → Bool)
theorem sim_own (k f t a : Int) (n : BL) (l m : List Tree) (need : Nat) (head : Bool) (least : Nat) (h : SimL l m) : ownR nm tok (.mk k f t a n l) need head least = ownR nm tok (.mk k f t a n m) need head least := by
 unfold ownR
 rw [sim_row k f t a n l m need head h]
 rfl
theorem allP_at : ∀ {ps : List (Tree → Bool)} {l m : List Tree}, l.length = m.length → (∀ (i : Nat) (p : Tree → Bool) (x y : Tree), ps[i]? = some p → l[i]? = some x → m[i]? = some y → p x = true → p y = true) → allP ps l = true → allP ps m = true
 | [], [], [], _, _, h => h
 | [], _ :: _, _ :: _, _, _, h => by simp [allP] at h
 | p :: ps, [], [], _, _, h => by simp [allP] at h
 | p :: ps, x :: l, y :: m, hl, hi, h => by
  unfold allP at h ⊢
  rw [Bool.and_eq_true] at h ⊢
  exact ⟨hi 0 p x y rfl rfl rfl h.1, allP_at (by simpa using hl) (fun i p' x' y' h1 h2 h3 => hi (i + 1) p' x' y' (by simpa using h1) (by simpa using h2) (by simpa using h3)) h.2⟩
theorem sim_is (k f t a : Int) (n : BL) (l m : List Tree) (need : Nat) (h : SimL l m) (hlen : l.length = m.length)
  (hi : ∀ (i : Nat) (r : List Nat) (x y : Tree), (rowR (.mk k f t a n l) (needOf need).1 (needOf need).2.1).1[i]? = some r → l[i]? = some x → m[i]? = some y → anyR nm tok r x = true → anyR nm tok r y = true)
  (hR : isR nm tok (.mk k f t a n l) need = true) : isR nm tok (.mk k f t a n m) need = true := by
 rw [isR_eq, isRL_eq, Bool.and_eq_true] at hR ⊢
 rw [← sim_own nm tok k f t a n l m _ _ _ h, ← sim_row k f t a n l m _ _ h]
 refine ⟨hR.1, allP_at hlen (fun i p x y h1 h2 h3 h4 => ?_) hR.2⟩
 rw [List.getElem?_map] at h1
 cases hr : (rowR (.mk k f t a n l) (needOf need).1 (needOf need).2.1).1[i]? with
 | none => rw [hr] at h1; cases h1
 | some r =>
  rw [hr] at h1
  cases h1
  exact hi i r x y hr h2 h3 h4
theorem sim_of : ∀ {l m : List Tree}, l.length = m.length → (∀ (j : Nat) (x y : Tree), l[j]? = some x → m[j]? = some y → (x.kind = 0 ↔ y.kind = 0) ∧ (x.kind = 2 ↔ y.kind = 2)) → SimL l m
 | [], [], _, _ => trivial
 | x :: l, y :: m, hl, h => ⟨(h 0 x y rfl rfl).1, (h 0 x y rfl rfl).2, sim_of (by simpa using hl) (fun j x' y' h1 h2 => h (j + 1) x' y' (by simpa using h1) (by simpa using h2))⟩
end
theorem same_kind {x y : Tree} (h : sameV x y = true) : x.kind = y.kind := by
 obtain ⟨k, f, t, a, n, l⟩ := x
 obtain ⟨k', f', t', a', n', l'⟩ := y
 unfold sameV at h
 simp only [Bool.and_eq_true, decide_eq_true_eq] at h
 exact h.1.1
theorem sameL_at : ∀ {l m : List Tree}, sameL l m = true → ∀ (i : Nat) (x y : Tree), l[i]? = some x → m[i]? = some y → sameV x y = true
 | [], [], _, i, x, y, h, _ => by simp at h
 | [], _ :: _, h, _, _, _, _, _ => by simp [sameL] at h
 | _ :: _, [], h, _, _, _, _, _ => by simp [sameL] at h
 | x :: l, y :: m, h, i, x', y', h1, h2 => by
  unfold sameL at h; rw [Bool.and_eq_true] at h
  cases i with
  | zero => cases h1; cases h2; exact h.1
  | succ i => exact sameL_at h.2 i x' y' (by simpa using h1) (by simpa using h2)
theorem sameL_sim {l m : List Tree} (h : sameL l m = true) : SimL l m := by
 refine sim_of (sameL_len h) (fun j x y h1 h2 => ?_)
 rw [same_kind (sameL_at h j x y h1 h2)]
 exact ⟨Iff.rfl, Iff.rfl⟩
theorem same_depth : ∀ (t u : Tree), sameV t u = true → depthV t = depthV u := by
 refine tree_ind (fun k f t a n l ih u h => ?_)
 obtain ⟨k', f', t', a', n', l'⟩ := u
 unfold sameV at h
 simp only [Bool.and_eq_true, decide_eq_true_eq] at h
 have hs := h.2
 have hd : depthL l = depthL l' := by
  clear h
  induction l generalizing l' with
  | nil => cases l' with
   | nil => rfl
   | cons y m => simp [sameL] at hs
  | cons x l ihl => cases l' with
   | nil => simp [sameL] at hs
   | cons y m =>
    unfold sameL at hs
    rw [Bool.and_eq_true] at hs
    unfold depthL
    rw [ih x (by simp) y hs.1, ihl (fun z hz => ih z (List.mem_cons_of_mem _ hz)) m hs.2]
 unfold depthV
 rw [h.1.1, hd]
section
variable (nm : BL → Bool) (tok : BL → Int → Bool)
theorem same_to (k f t a : Int) (n : BL) (l m : List Tree) (f' t' a' : Int) (need : Nat) : isR nm tok (.mk k f t a n l) need = isR nm tok (.mk k f' t' a' n l) need := by
 rw [isR_eq, isR_eq]; rfl
theorem same_is1 : ∀ (t u : Tree) (need : Nat), sameV t u = true → isR nm tok t need = true → isR nm tok u need = true := by
 refine tree_ind (fun k f t a n l ih u need h hR => ?_)
 obtain ⟨k', f', t', a', n', l'⟩ := u
 unfold sameV at h
 simp only [Bool.and_eq_true, decide_eq_true_eq] at h
 obtain ⟨⟨rfl, rfl⟩, hs⟩ := h
 rw [← same_to nm tok k f t a n l' l' f' t' a' need]
 refine sim_is nm tok k f t a n l l' need (sameL_sim hs) (sameL_len hs) (fun i r x y hr hx hy hany => ?_) hR
 unfold anyR at hany ⊢
 obtain ⟨d, hd, hdx⟩ := List.any_eq_true.1 hany
 exact List.any_eq_true.2 ⟨d, hd, ih x (List.mem_of_getElem? hx) y d (sameL_at hs i x y hx hy) hdx⟩
theorem same_file1 (t u : Tree) (h : sameV t u = true) (hf : fileV nm tok t = true) : fileV nm tok u = true := by
 obtain ⟨k, f, t, a, n, l⟩ := t
 obtain ⟨k', f', t', a', n', l'⟩ := u
 unfold sameV at h
 simp only [Bool.and_eq_true, decide_eq_true_eq] at h
 obtain ⟨⟨rfl, rfl⟩, hs⟩ := h
 unfold fileV at hf ⊢
 simp only [Tree.kind, Tree.name, Tree.kids] at hf ⊢
 rw [Bool.and_eq_true] at hf ⊢
 refine ⟨hf.1, ?_⟩
 rw [← sim_rowsF l l' true (sameL_sim hs)]
 have hr := hf.2
 rw [isRL_eq] at hr ⊢
 refine allP_at (sameL_len hs) (fun i p x y h1 h2 h3 h4 => ?_) hr
 rw [List.getElem?_map] at h1
 cases hr : (rowsF true l)[i]? with
 | none => rw [hr] at h1; cases h1
 | some r =>
  rw [hr] at h1
  cases h1
  unfold anyR at h4 ⊢
  obtain ⟨d, hd, hdx⟩ := List.any_eq_true.1 h4
  exact List.any_eq_true.2 ⟨d, hd, same_is1 nm tok x y d (sameL_at hs i x y h2 h3) hdx⟩
theorem same_file (t u : Tree) (h : sameV t u = true) : fileV nm tok t = fileV nm tok u := by
 rw [Bool.eq_iff_iff]
 exact ⟨same_file1 nm tok t u h, same_file1 nm tok u t (same_symm t u h)⟩
theorem same_check (t u : Tree) (h : sameV t u = true) : checkV nm tok t = checkV nm tok u := by
 unfold checkV
 rw [same_depth t u h, same_file nm tok t u h]
end
theorem info24 : (Tryz.prog.info? 24).map (fun i => (i.zero, i.size, i.bytes)) = some (some (.agg #[.int .i64 0, .int .i64 0, .int .i64 0, .int .i64 0, .string ⟨#[]⟩, .slice none 0 0]), 6, 72) := by kernel_rfl
section
theorem Kept.of_below {M : Nat → Prop} {A B : World} (h : Below A.heap.size A B) : Kept M A B := ⟨h.size, fun b hb _ => h.block b hb⟩
variable {P : Program}
end
inductive NodeS (w : World) (S : Nat → Prop) : Tree → RN → Prop where
 | mk (k f t a : Int) (n : BL) (l : List Tree) (A : Option Addr) (cap : Nat) (rs : List RN) (b off : Nat) (hA : 0 < l.length → A = some ⟨b, off, none⟩ ∧ S b) (hl : rs.length = l.length)
   (hc : ∀ (i : Nat) (x : RN), rs[i]? = some x → ∀ (j : Nat) (v : Value), x.cells[j]? = some v → w.cell? ⟨b, off + i * 6 + j, none⟩ = some v)
   (hk : ∀ (i : Nat) (x : Tree) (r : RN), l[i]? = some x → rs[i]? = some r → NodeS w S x r) : NodeS w S (.mk k f t a n l) ⟨k, f, t, a, toBA n, A, l.length, cap⟩
section
variable {w w' : World} {S S' : Nat → Prop} {t : Tree} {r : RN}
theorem NodeS.keep (h : NodeS w S t r) (hk : ∀ p : Addr, S p.block → w'.cell? p = w.cell? p) (hS : ∀ b, S b → S' b) : NodeS w' S' t r := by
 induction h with
 | mk k f t a n l A cap rs b off hA hl hc hks ih =>
  refine .mk k f t a n l A cap rs b off (fun h => ⟨(hA h).1, hS _ (hA h).2⟩) hl (fun i x hx j v hv => ?_) ih
  have h0 : 0 < l.length := by have := (List.getElem?_eq_some_iff.1 hx).1; omega
  exact (hk _ (hA h0).2).trans (hc i x hx j v hv)
theorem NodeS.toM {B : Nat} (h : NodeS w S t r) (hS : ∀ b, S b → b < B) : NodeM w B t r := by
 induction h with
 | mk k f t a n l A cap rs b off hA hl hc hks ih =>
  exact .mk k f t a n l A cap rs (fun h => ⟨b, off, (hA (by omega)).1, hS _ (hA (by omega)).2, hc⟩) hl ih
def KeepS (S : Nat → Prop) (w w' : World) : Prop := ∀ b, S b → w'.heap[b]? = w.heap[b]?
theorem NodeS.on (h : NodeS w S t r) (hk : KeepS S w w') : NodeS w' S t r := h.keep (fun p hp => World.cell?_of_block (hk _ hp)) (fun _ h => h)
theorem NodeS.more (h : NodeS w S t r) (hS : ∀ b, S b → S' b) : NodeS w S' t r := h.keep (fun _ _ => rfl) hS
end
def SepL (w : World) (S : Nat → Prop) (L : List Tree) (rs : List RN) : Prop := rs.length = L.length ∧ ∀ (i : Nat) (x : Tree) (r : RN), L[i]? = some x → rs[i]? = some r → NodeS w S x r
theorem SepL.nil_ {w : World} {S : Nat → Prop} : SepL w S [] [] := ⟨rfl, fun i x r h => by simp at h⟩
theorem SepL.snoc {w : World} {S : Nat → Prop} {x : Tree} {r : RN} {L : List Tree} {rs : List RN} (hL : SepL w S L rs) (h : NodeS w S x r) : SepL w S (L ++ [x]) (rs ++ [r]) := by
 refine ⟨by simp [hL.1], fun i y s hy hs => ?_⟩
 by_cases hi : i < L.length
 · rw [List.getElem?_append_left hi] at hy
   rw [List.getElem?_append_left (by rw [hL.1]; exact hi)] at hs
   exact hL.2 i y s hy hs
 · rw [List.getElem?_append_right (by omega)] at hy
   rw [List.getElem?_append_right (by rw [hL.1]; omega), hL.1] at hs
   have h0 : i - L.length = 0 := by
    have := (List.getElem?_eq_some_iff.1 hy).1
    simp at this; omega
   rw [h0] at hy hs
   cases hy; cases hs
   exact h
theorem SepL.keep {w w' : World} {S S' : Nat → Prop} {L : List Tree} {rs : List RN} (h : SepL w S L rs) (hk : KeepS S w w') (hS : ∀ b, S b → S' b) : SepL w' S' L rs :=
 ⟨h.1, fun i x r hx hr => ((h.2 i x r hx hr).on hk).more hS⟩
def Sp (B0 oB : Nat) (V : Value) (w : World) (b : Nat) : Prop := (b < B0 ∨ oB < b) ∧ b < w.heap.size ∧ V.ownBlock ≠ some b
theorem sep_step {B0 oB g lo n c : Nat} {V : Value} {M : Nat → Prop} {wr w2 w4 w5 w6 : World} {ms : List Tree} {rs : List RN} {m : Tree} {s : RN} (hM : ∀ b, M b → B0 ≤ b ∧ b < lo ∧ (b ≤ oB ∨ wr.heap.size ≤ b)) (k1 : Kept M wr w2) (k2 : Kept M w2 w4)
  (h5 : w4.grownBy w5 V.ownBlock) (k3 : Kept M w5 w6) (hlo : wr.heap.size ≤ lo) (h0 : B0 ≤ oB) (hoB : oB < wr.heap.size) (hown : ∀ k, V.ownBlock = some k → oB < k ∧ k < wr.heap.size) (hg : V.ownBlock = some g ∨ w4.heap.size ≤ g)
  (hs : SepL wr (Sp B0 oB V wr) ms rs) (hn : NodeS w2 (fun b => b < B0 ∨ (lo ≤ b ∧ b < w2.heap.size)) m s) : SepL w6 (Sp B0 oB (.slice (some ⟨g, 0, none⟩) n c) w6) (ms ++ [m]) (rs ++ [s]) := by
 have z1 := k1.1
 have z2 := k2.1
 have z3 := h5.size
 have z4 := k3.1
 have hgs : ∀ k, V.ownBlock = some k → oB < k ∧ k < wr.heap.size := hown
 refine SepL.snoc (hs.keep (fun b hb => ?_) (fun b hb => ?_)) ((hn.on (fun b hb => ?_)).more (fun b hb => ?_))
 · obtain ⟨h1, h2, h3⟩ := hb
   have hm : ¬ M b := fun h => by have := hM b h; omega
   exact (k3.2 b (by omega) hm).trans ((h5.block b (by omega) (fun e => h3 e.symm)).trans ((k2.2 b (by omega) hm).trans (k1.2 b h2 hm)))
 · obtain ⟨h1, h2, h3⟩ := hb
   refine ⟨h1, by omega, fun e => ?_⟩
   have e : g = b := Option.some.inj e
   rcases hg with hg | hg
   · exact h3 (by rw [hg, e])
   · omega
 · have hm : ¬ M b := fun h => by have := hM b h; omega
   have hlt : b < w2.heap.size := by omega
   have h3 : ¬ V.ownBlock = some b := fun e => by have := hown b e; omega
   exact (k3.2 b (by omega) hm).trans ((h5.block b (by omega) (fun e => h3 e.symm)).trans (k2.2 b (by omega) hm))
 · refine ⟨by omega, by omega, fun e => ?_⟩
   have e : g = b := Option.some.inj e
   rcases hg with hg | hg
   · have := hown g hg; omega
   · omega
theorem sameL_snoc : ∀ {l m : List Tree} {x y : Tree}, sameL l m = true → sameV x y = true → sameL (l ++ [x]) (m ++ [y]) = true
 | [], [], x, y, _, h => by simp [sameL, h]
 | a :: l, b :: m, x, y, h, k => by
  simp only [List.cons_append, sameL, Bool.and_eq_true] at h ⊢
  exact ⟨h.1, sameL_snoc h.2 k⟩
theorem own_keepN {w w' : World} {B : Nat} {v : Value} {l : List RN} (h : OwnN w B v l) (hk : ∀ q, v.ownBlock = some q → w'.heap[q]? = w.heap[q]?) : OwnN w' B v l := by
 refine ⟨h.1, ?_⟩
 rcases h.2 with h2 | ⟨g, cap, cur, hv, hB, hg, rest⟩
 · exact .inl h2
 · exact .inr ⟨g, cap, cur, hv, hB, (hk g (by rw [hv]; rfl)).trans hg, rest⟩
theorem own_ne {w : World} {B b : Nat} {v : Value} {l : List RN} (h : OwnN w B v l) (hb : b < B) : some b ≠ v.ownBlock := fun e => by have := (h.lt b e.symm).1; omega
theorem set_box {w : World} {b n c : Nat} {r : RN} {A : Option Addr} (h : w.heap[b]? = some (boxC r)) : (w.setCell ⟨b, 5, none⟩ (.slice A n c)).heap[b]? = some (boxC ⟨r.kind, r.fr, r.en, r.at_, r.name, A, n, c⟩) := by
 rw [set_heap h]; rfl
structure Made (B0 b0 oB : Nat) (ro : RN) (A : Option Addr) (n c : Nat) (ms : List Tree) (rs : List RN) (w : World) : Prop where
 box : w.heap[oB]? = some (boxC ⟨ro.kind, ro.fr, ro.en, ro.at_, ro.name, A, n, c⟩)
 own : OwnN w (oB + 1) (.slice A n c) rs
 sep : SepL w (Sp B0 oB (.slice A n c) w) ms rs
 len : ms.length = n
theorem Made.rlen {B0 b0 oB : Nat} {ro : RN} {A : Option Addr} {n c : Nat} {ms : List Tree} {rs : List RN} {w : World} (h : Made B0 b0 oB ro A n c ms rs w) : rs.length = n := by rw [h.sep.1, h.len]
theorem Made.next {B0 b0 oB g lo n c c2 : Nat} {ro : RN} {A : Option Addr} {M : Nat → Prop} {wr w2 w4 w5 : World} {ms : List Tree} {rs : List RN} {m : Tree} {s : RN} (h : Made B0 b0 oB ro A n c ms rs wr)
  (hM : ∀ b, M b → B0 ≤ b ∧ b < lo ∧ (b < oB ∨ wr.heap.size ≤ b)) (k1 : Kept M wr w2) (k2 : Kept M w2 w4) (h5 : w4.grownBy w5 (Value.slice A n c).ownBlock) (hlo : wr.heap.size ≤ lo) (h0 : B0 ≤ oB)
  (hg : (Value.slice A n c).ownBlock = some g ∨ w4.heap.size ≤ g) (hgl : oB < g) (ho : OwnN w5 (oB + 1) (.slice (some ⟨g, 0, none⟩) (n + 1) c2) (rs ++ [s]))
  (hn : NodeS w2 (fun b => b < B0 ∨ (lo ≤ b ∧ b < w2.heap.size)) m s) : Made B0 b0 oB ro (some ⟨g, 0, none⟩) (n + 1) c2 (ms ++ [m]) (rs ++ [s]) (w5.setCell ⟨oB, 5, none⟩ (.slice (some ⟨g, 0, none⟩) (n + 1) c2)) := by
 have hoB : oB < wr.heap.size := (Array.getElem?_eq_some_iff.1 h.box).1
 have z1 := k1.1
 have z2 := k2.1
 have hm : ¬ M oB := fun e => by have := hM oB e; omega
 refine ⟨?_, own_keepN ho fun q hq => set_other (by have e : g = q := Option.some.inj hq; omega), ?_, by rw [List.length_append, h.len]; rfl⟩
 · have h1 := (h5.block oB (by omega) (own_ne h.own (by omega))).trans ((k2.2 oB (by omega) hm).trans ((k1.2 oB hoB hm).trans h.box))
   have h2 := set_box (n := n + 1) (c := c2) (A := some ⟨g, 0, none⟩) h1
   exact h2
 · exact sep_step (M := fun b => M b ∨ b = oB) (lo := lo) (fun b hb => by rcases hb with hb | hb; (have := hM b hb; omega); omega) (k1.mono fun b hb => .inl hb) (k2.mono fun b hb => .inl hb) h5 (Kept.setCell _ w5 ⟨oB, 5, none⟩ _ (.inr rfl)) hlo h0 hoB
    (fun k hk => by have := h.own.lt k hk; omega) hg h.sep hn
def MovedOut (t : Tree) (w : World) (e : Ending) (w' : World) : Prop :=
 (∃ m s, e = .returned (RN.val s) ∧ NodeS w' (fun b => b < 0 ∨ (w.heap.size ≤ b ∧ b < w'.heap.size)) m s ∧ sameV t m = true) ∧ Below w.heap.size w w'
theorem same_mk {k f e a f' e' a' : Int} {n : BL} {l m : List Tree} (h : sameL l m = true) : sameV (.mk k f e a n l) (.mk k f' e' a' n m) = true := by
 unfold sameV; simp [h]
theorem made_node {B0 b0 oB n c : Nat} {ro : RN} {A : Option Addr} {ms : List Tree} {rs : List RN} {w : World} {S : Nat → Prop} (h : Made B0 b0 oB ro A n c ms rs w) (nm : BL) (hn : ro.name = toBA nm) (hS : ∀ b, (b < B0 ∨ oB < b) → b < w.heap.size → S b) :
  NodeS w S (.mk ro.kind ro.fr ro.en ro.at_ nm ms) ⟨ro.kind, ro.fr, ro.en, ro.at_, ro.name, A, n, c⟩ := by
 have hl := h.len
 have hr := h.rlen
 subst hl
 rw [hn]
 obtain ⟨A2, c2, hv, hrow⟩ := h.own.row RN.len
 injection hv with e1 e2 e3
 subst e1
 by_cases h0 : 0 < rs.length
 · obtain ⟨b, off, hA, hb, hc⟩ := hrow h0
   refine .mk _ _ _ _ nm ms A c rs b off (fun _ => ⟨hA, hS b (.inr ?_) hb⟩) hr hc (fun i x r hx hrx => (h.sep.2 i x r hx hrx).more fun b hb => hS b hb.1 hb.2.1)
   have := h.own.lt b (by rw [hA]; rfl)
   omega
 · exact .mk _ _ _ _ nm ms A c rs 0 0 (fun h => absurd (by omega) h0) hr (fun i x hx => absurd (by have := (List.getElem?_eq_some_iff.1 hx).1; omega) h0) (fun i x r hx hrx => (h.sep.2 i x r hx hrx).more fun b hb => hS b hb.1 hb.2.1)
theorem aMoved : ∀ (t : Tree) (r : RN) (w : World) (B : Nat) (by_ : Int), NodeM w B t r → B ≤ w.heap.size → costT t ≤ 3000 →
  Calls Tryz.prog 19 #[r.val, .int .i64 by_] w (MovedOut t w) := by
 refine tree_ind (fun k f en a n l ih r w B by_ hm hB hc => ?_)
 obtain ⟨A, cap, rfl, hk⟩ := hm.open2
 obtain ⟨i24, hi24, hz0, hz1, hz2⟩ := info_cut info24
 have hlen := kids_few hc
 have HK := Lib.hid hk
 have HI := Lib.hid (fun x hx rx W B by_ h1 h2 => ih x hx rx W B by_ h1 h2 (kid_cost hc hx))
 have HBB := Lib.hid hB
 clear hm ih hc hk
 unfold RN.val
 go_enter Tryz.func19, Tryz.ntmps19
 go_wp2_with fail
 go_loopw [6] (fun i wr => ∃ (j : Nat) (A' : Option Addr) (c' : Nat) (ms : List Tree) (rs : List RN), j ≤ l.length ∧ i = .int .i64 j ∧ sameL (l.take j) ms = true ∧ wr.heap[w.heap.size]? = some (boxC ⟨k, f, en, a, toBA n, A, l.length, cap⟩) ∧ wr.heap[w.heap.size + 1]? = some (boxC ⟨0, 0, 0, 0, ⟨#[]⟩, none, 0, 0⟩) ∧ Made 0 w.heap.size (w.heap.size + 1 + 1) ⟨k, en, a, by_, toBA n, none, 0, 0⟩ A' j c' ms rs wr ∧ Below w.heap.size w wr) (fun i _ => l.length - (intOf i).toNat)
 case atStart => exact ⟨0, none, 0, [], [], Nat.zero_le _, rfl, by rw [List.take_zero]; rfl, nb_alloc (nb_alloc (heap_alloc_new _ _)), nb_alloc (new_at (by simp)), ⟨new_at (by simp), Own.nil_, .nil_, rfl⟩, zA (zA (zA (zR _)))⟩
 case round =>
  obtain ⟨j, A', c', ms, rs, hj, rfl, hsame, hb0, hb1, hmade, hb⟩ := hrel
  have HB1 := Lib.hid hb
  have HMD := Lib.hid hmade
  have HH := Lib.hid (And.intro hb0 hb1)
  have HSM := Lib.hid hsame
  have HRL := Lib.hid hmade.rlen
  obtain ⟨e0, e1, e2, e3, e4, e5, ez, el⟩ := ncells hb0
  obtain ⟨o0, o1, o2, o3, o4, o5, oz, ol⟩ := ncells hmade.box
  obtain ⟨z0, z1, z2, z3, z4, z5, zz, zl⟩ := ncells hb1
  have hsz := hb.size
  clear hb hb0 hb1 hmade hsame
  by_cases hlt : j < l.length
  · obtain ⟨x, hx⟩ : ∃ x, l[j]? = some x := ⟨_, List.getElem?_eq_getElem hlt⟩
    obtain ⟨b, off, rx, rfl, hbb, hmx, c0, c1, c2, c3, c4, c5⟩ := (HK.out.later HB1.out HBB.out).at hx
    have hb1 : b < wr.heap.size := by omega
    have HCL := Lib.hid (fun by' => HI.out x (List.mem_of_getElem? hx) rx wr B by' hmx (by omega))
    have HX := Lib.hid hx
    unfold RN.val at HCL
    clear hmx hx z0 z1 z2 z3 z4 z5 zz zl
    go_wp2_with (first | (go_at_call 19; refine (HCL.out _).mono ?_; rintro e w2 ⟨⟨m, s, rfl, hn, hsv⟩, hbS⟩; dsimp only [RN.val]; obtain ⟨p0, p1, p2, p3, p4, p5, pz, pl⟩ := ncells (nb_below HMD.out.box hbS); have H2 := Lib.hid (And.intro hn (And.intro hsv hbS)); have hs2 := hbS.size; clear hn hsv hbS o0 o1 o2 o3 o4 o5 oz ol e0 e1 e2 e3 e4 e5 ez el c0 c1 c2 c3 c4 c5) | (at_builtin; go_must (refine wpList_append_rec (cs := RN.cells) rfl _ _ 22 rfl 24 i24 _ 72 Tryz.underlying22 hi24 hz0 hz1 hz2 rfl (by decide) RN.len RN.one (w2.alloc (boxC s)) (w.heap.size + 1 + 1 + 1) (w2.heap.size + 1) (.slice A' j c') rs s _ rfl (by rfl) (by rfl) (by simp) (Own.alloc (Own.below HMD.out.own H2.out.2.2) _) (by rw [HRL.out]; unfold maxLen; omega) (by rw [HRL.out]; omega) (by rw [World.size_alloc]; omega) ?_); intro g cap2 w5 ho5 hg5 hat5 hlt5; rw [show rs.length + 1 = j + 1 from congrArg (· + 1) HRL.out] at ho5 ⊢; obtain ⟨q0, q1, q2, q3, q4, q5, qz, ql⟩ := ncells ((hg5.block (w.heap.size + 1 + 1) (by rw [World.size_alloc]; omega) (own_ne HMD.out.own (by omega))).trans (nb_alloc (nb_below HMD.out.box H2.out.2.2))); have HF := Lib.hid (And.intro ho5 (And.intro hg5 hat5)); clear ho5 hg5 hat5 p0 p1 p2 p3 p4 p5 pz pl))
    go_roundw
    case rel =>
     have hs3 := H2.out.2.2.size
     have hol := (Array.getElem?_eq_some_iff.1 HMD.out.box).1
     have hgl : w.heap.size + 1 + 1 < g := by
      have := HF.out.1.lt g rfl
      omega
     have hk2 : ∀ b, b < w.heap.size + 1 + 1 → b < wr.heap.size → (w5.setCell ⟨w.heap.size + 1 + 1, 5, none⟩ (.slice (some ⟨g, 0, none⟩) (j + 1) cap2)).heap[b]? = wr.heap[b]? := fun b h1 h2 =>
      (set_other (by omega)).trans ((HF.out.2.1.block b (by rw [World.size_alloc]; omega) (own_ne HMD.out.own (by omega))).trans ((Go.heap_alloc_old w2 _ (by omega)).trans (H2.out.2.2.block b h2)))
     refine ⟨j + 1, some ⟨g, 0, none⟩, cap2, ms ++ [m], rs ++ [s], by omega, by go_num, ?_, (hk2 _ (by omega) (by omega)).trans HH.out.1, (hk2 _ (by omega) (by omega)).trans HH.out.2,
      HMD.out.next (M := fun _ => False) (fun b h => h.elim) (Kept.of_below H2.out.2.2) (Kept.of_below (zA (zR _))) HF.out.2.1 (Nat.le_refl _) (Nat.zero_le _) ?_ hgl HF.out.1 H2.out.1, ?_⟩
     · rw [take_succ_at HX.out]; exact sameL_snoc HSM.out H2.out.2.1
     · rcases HF.out.2.2 with h | h
       · exact .inl h
       · exact .inr (by rw [h]; omega)
     · refine Below.setCell (p := ⟨w.heap.size + 1 + 1, 5, none⟩) (below_grown (l := rs) (cs := RN.cells) (sz := 6) (e := 24) (B := w.heap.size) (zA (zT HB1.out H2.out.2.2)) (OwnN.mono (Own.alloc (Own.below HMD.out.own H2.out.2.2) _) (by omega)) (by rw [World.size_alloc]; omega) HF.out.2.1) (by show w.heap.size ≤ w.heap.size + 1 + 1; omega) _
    case measure => simp only [intOf]; omega
  · have hje : j = l.length := by omega
    subst hje
    go_wp2_with fail
    have hne : w.heap.size + 1 ≠ w.heap.size + 1 + 1 := by omega
    refine bodyPost_ret (v := (⟨k, en, a, by_, toBA n, A', l.length, c'⟩ : RN).val) (results_cell_row (p := 4) rfl _ _ (w.heap.size + 1) 24 _ (0, 0) _ rfl (six_set HH.out.2) Tryz.underlying24 rfl (by kernel_rfl)) rfl ⟨⟨.mk k en a by_ n ms, _, rfl, ?_, ?_⟩, six_below HB1.out (by omega)⟩
    · have hN := made_node (S := fun b => b < 0 ∨ (w.heap.size + 1 + 1 < b ∧ b < wr.heap.size)) HMD.out n rfl (fun b h1 h2 => by omega)
      refine hN.keep (fun p hp => World.cell?_of_block (six_other (by omega))) (fun b hb => ?_)
      refine .inr ⟨by omega, ?_⟩
      have hz : ∀ (W : World) (p : Addr) (v : Value), (W.setCell p v).heap.size = W.heap.size := fun W p v => by simp [World.setCell]
      rw [hz, hz, hz, hz, hz, hz]
      omega
    · have h := HSM.out
      rw [List.take_length] at h
      exact same_mk h
mutual
theorem same_cost : ∀ t u : Tree, sameV t u = true → costT t = costT u
 | .mk k f e a n l, .mk k' f' e' a' n' l', h => by
  unfold sameV at h
  simp only [Bool.and_eq_true, decide_eq_true_eq] at h
  rw [costT, costT, h.1.2, sameL_cost l l' h.2]
theorem sameL_cost : ∀ l m : List Tree, sameL l m = true → costL l = costL m
 | [], [], _ => rfl
 | [], _ :: _, h => by simp [sameL] at h
 | _ :: _, [], h => by simp [sameL] at h
 | a :: l, b :: m, h => by
  simp only [sameL, Bool.and_eq_true] at h
  rw [costL, costL, same_cost a b h.1, sameL_cost l m h.2]
end
theorem box_keep22 {w0 W' : World} {b b' : Nat} {r r' : RN} (hx : w0.heap[b]? = some (boxC r)) (hx' : w0.heap[b']? = some (boxC r')) (h : Below w0.heap.size w0 W') :
  zE w0 b r (fun W' => W'.cell? ⟨b', 0, none⟩ = some (.int .i64 r'.kind) ∧ W'.cell? ⟨b', 1, none⟩ = some (.int .i64 r'.fr) ∧ W'.cell? ⟨b', 2, none⟩ = some (.int .i64 r'.en) ∧ W'.cell? ⟨b', 3, none⟩ = some (.int .i64 r'.at_) ∧ W'.cell? ⟨b', 4, none⟩ = some (.string r'.name) ∧ W'.cell? ⟨b', 5, none⟩ = some (.slice r'.A r'.n r'.cap)) W' := by
 obtain ⟨-, e0, e1, e2, e3, e4, e5⟩ := box_keep hx h
 obtain ⟨-, f0, f1, f2, f3, f4, f5⟩ := box_keep hx' h
 exact ⟨h, e0, e1, e2, e3, e4, e5, f0, f1, f2, f3, f4, f5⟩
theorem lawPlaces (by_ : Int) (t : Tree) (r : RN) (w : World) (hG : LexG w) (hm : NodeM w w.heap.size t r) (hf : fineT t) :
  Calls Tryz.prog 5 #[r.val, .int .i64 by_] w fun e w' => e = .returned (.bool true) ∧ Below w.heap.size w w' := by
 obtain ⟨W0, hW0⟩ : ∃ W0, w.alloc (boxC r) = W0 := ⟨_, rfl⟩
 have HX := Lib.hid (heap_alloc_new w (boxC r))
 have HB := Lib.hid ((Below.refl w.heap.size w).alloc (Nat.le_refl _) (boxC r))
 rw [hW0] at HX HB
 have HM := Lib.hid (fun W (hb : Below W0.heap.size W0 W) => hm.under (below_then HB.out hb) (Nat.le_refl _))
 have HN := Lib.hid (fun W (hb : Below W0.heap.size W0 W) => hm.after (Nat.le_refl _) (below_then HB.out hb))
 have HW := Lib.hid (fun W (hb : Below W0.heap.size W0 W) => aWorks W ((hG.below HB.out).below hb))
 have HF := Lib.hid (fun W (hb : Below W0.heap.size W0 W) => aFew t r W (HN.out W hb) hf)
 have hcost : decide (0 < sizeV 3000 t) = true → costT t ≤ 3000 := fun h => few_cost (of_decide_eq_true h)
 generalize decide (0 < sizeV 3000 t) = d at *
 obtain ⟨-, e0, e1, e2, e3, e4, e5⟩ := box_keep HX.out (Below.refl _ _)
 cases d with
 | false =>
  clear hcost
  unfold RN.val at HF ⊢
  unfold boxC at hW0
  go_enter Tryz.func5, Tryz.ntmps5
  go_wp2_with (first | (go_at_call 11; go_must (refine (HF.out _ (Below.refl _ _)).mono ?_); rintro e wA ⟨rfl, hbA⟩) | (go_at_call 12; go_must (refine (HW.out _ hbA).mono ?_); rintro e wB ⟨rfl, hbB⟩))
  go_ret
  exact ⟨rfl, below_then HB.out (below_then hbA hbB)⟩
 | true =>
  have hc := hcost rfl
  clear hcost
  have HMV := Lib.hid (fun W (hb : Below W0.heap.size W0 W) => aMoved t r W w.heap.size by_ (HM.out W hb) (below_then HB.out hb).size hc)
  have HL := Lib.hid (fun (W1 : World) (m : Tree) (s : RN) (hb : Below W0.heap.size W0 W1) (hn : NodeM W1 W1.heap.size m s) (hsv : sameV t m = true) W (hbW : Below W1.heap.size W1 W) =>
   And.intro (show Calls Tryz.prog 17 #[r.val, s.val] W fun e w' => e = .returned (.bool true) ∧ Below W.heap.size W w' by
    have h := aSame t m r s W (HN.out W (below_then hb hbW)) (hn.after (Nat.le_refl _) hbW) hc
    rw [hsv] at h; exact h) (And.intro (aDepth t r W (HN.out W (below_then hb hbW)) hc) (And.intro (show Calls Tryz.prog 14 #[s.val] W fun e w' => e = .returned (.int .i64 (depthV t)) ∧ Below W.heap.size W w' by
    have h := aDepth m s W (hn.after (Nat.le_refl _) hbW) (by rw [← same_cost t m hsv]; exact hc)
    rw [← same_depth t m hsv] at h; exact h) (And.intro (aCheck t r W ((hG.below HB.out).below (below_then hb hbW)) (HN.out W (below_then hb hbW)) hc) (show Calls Tryz.prog 13 #[s.val] W fun e w' => e = .returned (.int .i64 (checkV nameV tokT t)) ∧ Below W.heap.size W w' by
    have h := aCheck m s W ((hG.below HB.out).below (below_then hb hbW)) (hn.after (Nat.le_refl _) hbW) (by rw [← same_cost t m hsv]; exact hc)
    rw [← same_check nameV tokT t m hsv] at h; exact h)))))
  have HMO := Lib.hid (fun (w' : World) (m : Tree) (s : RN) (W : World) (h : NodeS W (fun b => b < 0 ∨ (w'.heap.size ≤ b ∧ b < W.heap.size)) m s) => h.toM (B := W.heap.size) (fun b hb => by omega))
  generalize checkV nameV tokT t = cv at *
  have HDV : ∃ dv : Int, (depthV t : Int) = dv := ⟨_, rfl⟩
  obtain ⟨dv, hdv⟩ := HDV
  rw [hdv] at HL
  clear hG hm hf hc hdv
  unfold RN.val at HF HMV HL ⊢
  have hW0' := hW0
  unfold boxC at hW0
  go_enter Tryz.func5, Tryz.ntmps5
  go_wp2_with (first | (go_at_call 19; go_must (refine (HMV.out _ hbA).mono ?_); rintro e w1 ⟨⟨m, s, rfl, hn, hsv⟩, hb1⟩; dsimp only [RN.val]; have hb2 := below_then hbA hb1; have hn2 := (HMO.out _ m s w1 hn).boxed (Nat.le_refl _) (boxC s); have hX1 := heap_alloc_new w1 (boxC s); have hX0 := nb_alloc (o' := boxC s) (nb_below HX.out hb2); have hb3 : Below W0.heap.size W0 (w1.alloc (boxC s)) := zA hb2; have hsz1 : (w1.alloc (boxC s)).heap.size = w1.heap.size + 1 := World.size_alloc _ _; obtain ⟨W1, hW1⟩ : ∃ W1, w1.alloc (boxC s) = W1 := ⟨_, rfl⟩; rw [hW1] at hn2 hX1 hX0 hb3; have HL1 := Lib.hid (HL.out W1 m s hb3 hn2 hsv); have HX1 := Lib.hid (And.intro hX0 hX1); have HB3 := Lib.hid hb3; unfold boxC at hW1; clear hn hsv hb1 hn2 hX0 hX1 hb3 hsz1 hb2 e0 e1 e2 e3 e4 e5; obtain ⟨-, e0, e1, e2, e3, e4, e5, f0, f1, f2, f3, f4, f5⟩ := box_keep22 HX1.out.1 HX1.out.2 (zR _)) | (go_at_call 11; go_must (refine (HF.out _ (Below.refl _ _)).mono ?_); rintro e wA ⟨rfl, hbA⟩; clear e0 e1 e2 e3 e4 e5; obtain ⟨-, e0, e1, e2, e3, e4, e5⟩ := box_keep HX.out hbA))
  have HKP := Lib.hid (fun W' (hBW : Below W1.heap.size W1 W') => (show (zE W1 w.heap.size r (fun w' => w'.cell? ⟨w1.heap.size, 0, none⟩ = some (.int .i64 s.kind) ∧ w'.cell? ⟨w1.heap.size, 1, none⟩ = some (.int .i64 s.fr) ∧ w'.cell? ⟨w1.heap.size, 2, none⟩ = some (.int .i64 s.en) ∧ w'.cell? ⟨w1.heap.size, 3, none⟩ = some (.int .i64 s.at_) ∧ w'.cell? ⟨w1.heap.size, 4, none⟩ = some (.string s.name) ∧ w'.cell? ⟨w1.heap.size, 5, none⟩ = some (.slice s.A s.n s.cap))) W' from by exact box_keep22 HX1.out.1 HX1.out.2 hBW))
  refine zHD HKP fun hHeld => ?_
  refine zTk 0 (h := ?_)
  refine zTk 1 (h := ?_)
  refine zRd 2 (h := fun KK hKK => ?_)
  go_simp
  (refine ((zb HL1)).1.mono ?_; rintro e x1 ⟨rfl, hy1⟩)
  (try go_wp2_with fail)
  refine zKK hKK HKP fun hHeld2 => ?_; clear hKK KK hHeld; rename _ => hHeld
  refine zTk 3 (h := ?_)
  refine zTk 4 (h := ?_)
  refine zTk 6 (h := ?_)
  refine zRd 5 (h := fun KK hKK => ?_)
  go_simp
  (refine ((zb HL1)).2.1.mono ?_; rintro e x2 ⟨rfl, hy2⟩)
  (try go_wp2_with fail)
  refine zKK hKK HKP fun hHeld2 => ?_; clear hKK KK hHeld; rename _ => hHeld
  refine zRd 7 (h := fun KK hKK => ?_)
  go_simp
  (refine ((zb HL1)).2.2.1.mono ?_; rintro e x3 ⟨rfl, hy3⟩)
  (try go_wp2_with fail)
  refine zKK hKK HKP fun hHeld2 => ?_; clear hKK KK hHeld; rename _ => hHeld
  refine zTk 8 (h := ?_)
  refine zTk 9 (h := ?_)
  refine zTk 10 (h := ?_)
  refine zTk 11 (h := ?_)
  refine zTk 13 (h := ?_)
  refine zRd 12 (h := fun KK hKK => ?_)
  go_simp
  (refine ((zb HL1)).2.2.2.1.mono ?_; rintro e x4 ⟨rfl, hy4⟩)
  (try go_wp2_with fail)
  refine zKK hKK HKP fun hHeld2 => ?_; clear hKK KK hHeld; rename _ => hHeld
  refine zRd 14 (h := fun KK hKK => ?_)
  go_simp
  (refine ((zb HL1)).2.2.2.2.mono ?_; rintro e x5 ⟨rfl, hy5⟩)
  (try go_wp2_with fail)
  refine zKK hKK HKP fun hHeld2 => ?_; clear hKK KK hHeld; rename _ => hHeld
  refine zTk 15 (h := ?_)
  refine zTk 16 (h := ?_)
  refine zTk 17 (h := ?_)
  refine zRd 18 (h := fun KK hKK => ?_)
  go_simp
  (refine (HW.out _ (zT HB3.out (by repeat (first | exact zR _ | assumption | apply zA | apply zD | refine zT ?_ (by assumption))))).mono ?_; rintro e x6 ⟨rfl, hy6⟩)
  (try go_wp2_with fail)
  refine zKK hKK HKP fun hHeld2 => ?_; clear hKK KK hHeld; rename _ => hHeld
  refine zTk 19 (h := ?_)
  refine zTk 20 (h := ?_)
  refine wpAnyH_done (by kernel_rfl) ?_ _
  have HE := Lib.hid hHeld.1
  clear hHeld
  go_wp2_with fail
  go_ret
  exact ⟨rfl, below_then HB.out (zT HB3.out HE.out)⟩
end Go.Proofs.YtacdfjlncfidgaaGreatDoor
