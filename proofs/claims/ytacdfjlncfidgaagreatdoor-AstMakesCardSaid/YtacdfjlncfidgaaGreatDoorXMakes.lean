/- What this law leans on beside the rest. -/
import Derived.WalkKit
import Derived.Outline
import Derived.Lib.Hide
import Derived.WalkLawsBesides
import Derived.WalkSpells
import Derived.Deep.AppendLies
import Derived.Deep.Draws
import Derived.Laws.OwnMore
import Derived.Maps.AppendAt
import Derived.OwnWalk
import Derived.Deep.QuietTactic
import Derived.BigQuiet
import Derived.RangeFuncOwn
import Derived.RangeFuncCalls
import Derived.RangeFuncLeaves
import Derived.TacticsIn
import Derived.OwnWalkIn
import Derived.LoopIn
import Derived.OrdersIn
import Derived.Test.YtacdfjlncfidgaaGreatDoorQA
import Derived.Test.YtacdfjlncfidgaaGreatDoorRA
import Derived.Test.YtacdfjlncfidgaaGreatDoorTB
import Derived.Test.YtacdfjlncfidgaaGreatDoorRB
import Derived.Test.YtacdfjlncfidgaaGreatDoorQB
import Derived.Test.YtacdfjlncfidgaaGreatDoorRE
import Derived.Test.YtacdfjlncfidgaaGreatDoorRD
import Derived.Test.YtacdfjlncfidgaaGreatDoorTD
import Derived.Test.YtacdfjlncfidgaaGreatDoorTO
import Derived.Test.YtacdfjlncfidgaaGreatDoorTF
import Derived.Test.YtacdfjlncfidgaaGreatDoorTE
import Derived.Test.YtacdfjlncfidgaaGreatDoorRQ
import Derived.Test.YtacdfjlncfidgaaGreatDoorRF
namespace Go.Proofs.YtacdfjlncfidgaaGreatDoor
open Go.RowKit
set_option linter.unusedVariables false
set_option linter.unusedSimpArgs false
set_option maxRecDepth 100000
set_option maxHeartbeats 6400000
section
variable {P : Program} {α : Type} {cs : α → List Value} {sz : Nat}
theorem below_grown {B : Nat} {w0 W w' : World} {e : TypeId} {v : Value} {l : List α} (hb : Below B w0 W) (hown : Own cs sz e W B v l) (hB : B ≤ W.heap.size) (hg : W.grownBy w' v.ownBlock) : Below B w0 w' :=
 hb.grown hg hB fun k hk => (hown.lt k hk).1
end
mutual
def eachV : Tree → List Tree
 | .mk k f t a n l => if k = 0 then [] else .mk k f t a n l :: eachL l
def eachL : List Tree → List Tree
 | [] => []
 | t :: l => eachV t ++ eachL l
end
section
variable (nm : BL → Bool) (tok : BL → Int → Bool)
theorem e_level (k f t a : Int) (n : BL) (l : List Tree) (c : Nat) (head : Bool) (h1 : 1 ≤ c) (h7 : c ≤ 7) (h : isR nm tok (.mk k f t a n l) (eC c head) = true) : isR nm tok (.mk k f t a n l) (eC 1 head) = true := by
 rw [isE nm tok k f t a n l c head h1 h7] at h
 rw [isE nm tok k f t a n l 1 head (by omega) (by omega)]
 unfold eKind at h ⊢
 by_cases q : k = 31
 · rw [if_pos q] at h ⊢
   rw [Bool.and_eq_true, Bool.and_eq_true, decide_eq_true_eq] at h ⊢
   exact ⟨⟨by omega, h.1.2⟩, h.2⟩
 · rw [if_neg q] at h ⊢
   by_cases q : k = 30
   · rw [if_pos q] at h ⊢
     rw [Bool.and_eq_true, Bool.and_eq_true, decide_eq_true_eq] at h ⊢
     exact ⟨⟨by omega, h.1.2⟩, h.2⟩
   · rw [if_neg q] at h ⊢; exact h
theorem e_head : ∀ (t : Tree) (c : Nat), 1 ≤ c → c ≤ 7 → isR nm tok t (eC c true) = true → isR nm tok t (eC c false) = true := by
 refine tree_ind (fun k f t a n l ih c h1 h7 h => ?_)
 rw [isE nm tok k f t a n l c true h1 h7] at h
 rw [isE nm tok k f t a n l c false h1 h7]
 unfold eKind at h ⊢
 by_cases q : k = 31
 · rw [if_pos q] at h ⊢
   rw [Bool.and_eq_true, Bool.and_eq_true, decide_eq_true_eq, decide_eq_true_eq] at h
   rw [Bool.and_eq_true, Bool.and_eq_true, decide_eq_true_eq, decide_eq_true_eq]
   refine ⟨h.1, ?_⟩
   have hpos := h.1.2
   have hl := lev_le n
   match l, ih, h.2 with
   | [x, y], ih, h2 =>
    simp only [allP, Bool.and_true, Bool.and_eq_true] at h2 ⊢
    exact ⟨ih x (by simp) _ (by omega) (by omega) h2.1, ih y (by simp) _ (by omega) (by omega) h2.2⟩
   | [], _, h2 => simp [allP] at h2
   | [_], _, h2 => simp [allP] at h2
   | _ :: _ :: _ :: _, _, h2 => simp [allP] at h2
 · rw [if_neg q] at h ⊢
   by_cases q : k = 30
   · rw [if_pos q] at h ⊢
     rw [Bool.and_eq_true] at h ⊢
     refine ⟨h.1, ?_⟩
     match l, ih, h.2 with
     | [x], ih, h2 =>
      simp only [allP, Bool.and_true] at h2 ⊢
      exact ih x (by simp) _ (by omega) (by omega) h2
     | [], _, h2 => simp [allP] at h2
     | _ :: _ :: _, _, h2 => simp [allP] at h2
   · rw [if_neg q] at h ⊢
     by_cases q : k = 21
     · rw [if_pos q] at h ⊢; exact h
     · rw [if_neg q] at h ⊢
       by_cases q : k = 22
       · rw [if_pos q] at h ⊢; exact h
       · rw [if_neg q] at h ⊢
         by_cases q : k = 23
         · rw [if_pos q] at h ⊢; exact h
         · rw [if_neg q] at h ⊢
           by_cases q : k = 24
           · rw [if_pos q] at h ⊢; exact h
           · rw [if_neg q] at h ⊢
             by_cases q : k = 25
             · rw [if_pos q] at h ⊢; exact h
             · rw [if_neg q] at h ⊢
               by_cases q : k = 33
               · rw [if_pos q] at h ⊢; exact h
               · rw [if_neg q] at h ⊢
                 by_cases q : k = 26
                 · rw [if_pos q] at h ⊢
                   rw [Bool.and_eq_true] at h ⊢
                   refine ⟨h.1, ?_⟩
                   match l, ih, h.2 with
                   | [x], ih, h2 =>
                    simp only [allP, Bool.and_true] at h2 ⊢
                    exact ih x (by simp) _ (by omega) (by omega) h2
                   | [], _, h2 => simp [allP] at h2
                   | _ :: _ :: _, _, h2 => simp [allP] at h2
                 · rw [if_neg q] at h ⊢
                   by_cases q : k = 32
                   · rw [if_pos q] at h ⊢; exact h
                   · rw [if_neg q] at h ⊢
                     by_cases q : k = 27
                     · rw [if_pos q] at h ⊢
                       rw [Bool.and_eq_true] at h ⊢
                       refine ⟨h.1, ?_⟩
                       cases l with
                       | nil => exact h.2
                       | cons x r =>
                        have h2 := h.2
                        simp only [Bool.and_eq_true, if_true, Bool.false_eq_true, if_false] at h2 ⊢
                        refine ⟨?_, h2.2⟩
                        obtain ⟨k', f', t', a', n', l'⟩ := x
                        have h3 := h2.1
                        rw [isR_1020, Bool.and_eq_true] at h3
                        rw [isR_20, Bool.and_eq_true]
                        exact ⟨h3.1, ih _ (by simp) 7 (by omega) (by omega) h3.2⟩
                     · rw [if_neg q] at h ⊢
                       by_cases q : k = 28
                       · rw [if_pos q] at h; simp at h
                       · rw [if_neg q] at h ⊢; exact h
theorem e_any (t : Tree) (c : Nat) (head : Bool) (h1 : 1 ≤ c) (h7 : c ≤ 7) (h : isR nm tok t (eC c head) = true) : isR nm tok t 101 = true := by
 obtain ⟨k, f, tt, a, n, l⟩ := t
 have h2 := e_level nm tok k f tt a n l c head h1 h7 h
 cases head with
 | false => exact h2
 | true => exact e_head nm tok _ 1 (by omega) (by omega) h2
end
def isEx (k : Int) : Bool := decide (21 ≤ k) && decide (k ≤ 33) && !decide (k = 29)
def isSt (k : Int) : Bool := decide (k = 11) || decide (k = 14) || decide (k = 19)
def freeK (k : Int) (i : Nat) : Bool :=
 if k = 11 ∨ k = 13 then decide (i = 1) else if k = 27 then decide (0 < i) else if k = 15 then decide (i = 1) else if k = 14 then decide (i = 0)
 else decide (k = 10) || decide (k = 12) || decide (k = 19) || decide (k = 29) || decide (k = 30) || decide (k = 31) || decide (k = 32) || decide (k = 33)
mutual
def wrapV : Tree → Int → Bool → Tree × Int
 | .mk k f t a n l, left, may =>
  (if left = 0 ∧ may = true ∧ isEx k = true then .mk 33 0 0 0 [] [.mk k f t a n (wrapL k 0 l (left - 1)).1]
   else if left = 0 ∧ may = true ∧ isSt k = true then .mk 10 0 0 0 [] [.mk k f t a n (wrapL k 0 l (left - 1)).1]
   else .mk k f t a n (wrapL k 0 l (left - 1)).1, (wrapL k 0 l (left - 1)).2)
def wrapL (k : Int) : Nat → List Tree → Int → List Tree × Int
 | _, [], left => ([], left)
 | i, .mk k' f t a n l' :: l, left =>
  if k' = 0 then (.mk k' f t a n l' :: (wrapL k (i + 1) l left).1, (wrapL k (i + 1) l left).2)
  else ((wrapV (.mk k' f t a n l') left (freeK k i)).1 :: (wrapL k (i + 1) l (wrapV (.mk k' f t a n l') left (freeK k i)).2).1, (wrapL k (i + 1) l (wrapV (.mk k' f t a n l') left (freeK k i)).2).2)
end
theorem sim_rowsL (k : Int) (head : Bool) : ∀ (l m : List Tree) (i : Nat), SimL l m → rowsL k head i l = rowsL k head i m
 | [], [], i, _ => rfl
 | x :: l, y :: m, i, h => by unfold rowsL; rw [sim_rowsL k head l m (i + 1) h.2.2]
theorem sim_rowsF : ∀ (l m : List Tree) (b : Bool), SimL l m → rowsF b l = rowsF b m
 | [], [], b, _ => rfl
 | x :: l, y :: m, b, h => by
  have e : decide (x.kind = 2) = decide (y.kind = 2) := by rw [decide_eq_decide]; exact h.2.1
  unfold rowsF; rw [e, sim_rowsF l m _ h.2.2]
theorem sim_row (k f t a : Int) (n : BL) (l m : List Tree) (need : Nat) (head : Bool) (h : SimL l m) : rowR (.mk k f t a n l) need head = rowR (.mk k f t a n m) need head := by
 have h1 := sim_rowsL k head l m 0 h
 have h2 := sim_rowsF l m true h
 have h3 := h.empty
 have h4 : varK l = varK m := by
  match l, m, h with
  | [], [], _ => rfl
  | [x], [y], _ => rfl
  | [x, x'], [y, y'], h =>
   have e1 : decide (x.kind ≠ 0) = decide (y.kind ≠ 0) := by rw [decide_eq_decide]; exact not_congr h.1
   have e2 : decide (x'.kind ≠ 0) = decide (y'.kind ≠ 0) := by rw [decide_eq_decide]; exact not_congr h.2.2.1
   show (decide (x.kind ≠ 0) || decide (x'.kind ≠ 0)) = (decide (y.kind ≠ 0) || decide (y'.kind ≠ 0))
   rw [e1, e2]
  | _ :: _ :: _ :: _, _ :: _ :: _ :: _, _ => rfl
 unfold rowR
 simp only [Tree.kind, Tree.kids, Tree.name, h1, h2, h3, h4]
 first | done | rfl
section
variable (nm : BL → Bool) (tok : BL → Int → Bool)
theorem sim_own (k f t a : Int) (n : BL) (l m : List Tree) (need : Nat) (head : Bool) (least : Nat) (h : SimL l m) : ownR nm tok (.mk k f t a n l) need head least = ownR nm tok (.mk k f t a n m) need head least := by
 unfold ownR
 rw [sim_row k f t a n l m need head h]
 rfl
theorem allP_at : ∀ {ps : List (Tree → Bool)} {l m : List Tree}, l.length = m.length → (∀ (i : Nat) (p : Tree → Bool) (x y : Tree), ps[i]? = some p → l[i]? = some x → m[i]? = some y → p x = true → p y = true) → allP ps l = true → allP ps m = true
 | [], [], [], _, _, h => h
 | [], _ :: _, _ :: _, _, _, h => by simp [allP] at h
 | p :: ps, [], [], _, _, h => by simp [allP] at h
 | p :: ps, x :: l, y :: m, hl, hi, h => by
  unfold allP at h ⊢
  rw [Bool.and_eq_true] at h ⊢
  exact ⟨hi 0 p x y rfl rfl rfl h.1, allP_at (by simpa using hl) (fun i p' x' y' h1 h2 h3 => hi (i + 1) p' x' y' (by simpa using h1) (by simpa using h2) (by simpa using h3)) h.2⟩
theorem sim_is (k f t a : Int) (n : BL) (l m : List Tree) (need : Nat) (h : SimL l m) (hlen : l.length = m.length)
  (hi : ∀ (i : Nat) (r : List Nat) (x y : Tree), (rowR (.mk k f t a n l) (needOf need).1 (needOf need).2.1).1[i]? = some r → l[i]? = some x → m[i]? = some y → anyR nm tok r x = true → anyR nm tok r y = true)
  (hR : isR nm tok (.mk k f t a n l) need = true) : isR nm tok (.mk k f t a n m) need = true := by
 rw [isR_eq, isRL_eq, Bool.and_eq_true] at hR ⊢
 rw [← sim_own nm tok k f t a n l m _ _ _ h, ← sim_row k f t a n l m _ _ h]
 refine ⟨hR.1, allP_at hlen (fun i p x y h1 h2 h3 h4 => ?_) hR.2⟩
 rw [List.getElem?_map] at h1
 cases hr : (rowR (.mk k f t a n l) (needOf need).1 (needOf need).2.1).1[i]? with
 | none => rw [hr] at h1; cases h1
 | some r =>
  rw [hr] at h1
  cases h1
  exact hi i r x y hr h2 h3 h4
def Adm (need : Nat) (k : Int) : Prop := (isEx k = true → ∃ c h, 1 ≤ c ∧ c ≤ 7 ∧ need = eC c h) ∧ (isSt k = true → need = 11)
theorem is_kind (t : Tree) (need : Nat) (h : isR nm tok t need = true) : (kindsR (needOf need).1).contains t.kind = true := by
 obtain ⟨k, f, tt, a, n, l⟩ := t
 rw [isR_eq, Bool.and_eq_true] at h
 have := h.1
 unfold ownR at this
 simp only [Bool.and_eq_true] at this
 exact this.1.1.1.1.1.1
theorem adm_e {x : Tree} {c : Nat} {hd : Bool} (h1 : 1 ≤ c) (h7 : c ≤ 7) (h : isR nm tok x (eC c hd) = true) : Adm (eC c hd) x.kind := by
 refine ⟨fun _ => ⟨c, hd, h1, h7, rfl⟩, fun hs => ?_⟩
 have := is_kind nm tok x _ h
 rw [need_e c hd h1 (by omega)] at this
 simp only at this
 rw [kinds_e c hd h1] at this
 exfalso
 have hk : x.kind = 11 ∨ x.kind = 14 ∨ x.kind = 19 := by simpa [isSt, or_assoc] using hs
 rcases hk with e | e | e <;> rw [e] at this <;> exact absurd this (by decide)
theorem adm_11 {x : Tree} (h : isR nm tok x 11 = true) : Adm 11 x.kind := by
 refine ⟨fun he => ?_, fun _ => rfl⟩
 have := is_kind nm tok x _ h
 exfalso
 have hk : (21 ≤ x.kind ∧ x.kind ≤ 33) ∧ ¬ x.kind = 29 := by simpa [isEx] using he
 have hm : x.kind ∈ [(11 : Int), 10, 14, 15, 16, 17, 18, 19, 12, 13, 20] := by
  have e : kindsR (needOf 11).1 = [11, 10, 14, 15, 16, 17, 18, 19, 12, 13, 20] := rfl
  rw [e] at this; exact List.contains_iff_mem.1 this
 simp only [List.mem_cons, List.not_mem_nil, or_false] at hm
 omega
theorem not_0 {x : Tree} (h : isR nm tok x 0 = true) : x.kind = 0 := by
 obtain ⟨k, f, tt, a, n, l⟩ := x
 rw [isR_0] at h
 simp only [Bool.and_eq_true, decide_eq_true_eq] at h
 exact h.1.1
theorem adm_at (k f t a : Int) (n : BL) (l : List Tree) (need : Nat) (head : Bool) (hn : k = 31 → 0 < levV n) (i : Nat) (r : List Nat) (x : Tree) (d : Nat) (hr : (rowR (.mk k f t a n l) need head).1[i]? = some r) (hd : d ∈ r)
  (hf : freeK k i = true) (hx : isR nm tok x d = true) (h0 : x.kind ≠ 0) : Adm d x.kind := by
 have up : ∀ m, (if head = true then 201 else 101) + m = eC (m + 1) head := by intro m; unfold eC; cases head <;> simp <;> omega
 have up0 : (if head = true then 201 else 101) = eC 1 head := by unfold eC; cases head <;> rfl
 have e101 : (101 : Nat) = eC 1 false := rfl
 have e201 : (201 : Nat) = eC 1 true := rfl
 unfold freeK at hf
 unfold rowR at hr
 simp only [Tree.kind, Tree.name, Tree.kids] at hr
 by_cases k11 : k = 11
 · subst k11
   have hi : i = 1 := by simpa using hf
   subst hi
   simp at hr; subst hr
   simp only [List.mem_cons, List.not_mem_nil, or_false] at hd
   rcases hd with rfl | rfl
   · exact adm_e nm tok (c := 1) (hd := false) (by decide) (by decide) hx
   · exact absurd (not_0 nm tok hx) h0
 by_cases k13 : k = 13
 · subst k13
   have hi : i = 1 := by simpa using hf
   subst hi
   simp at hr; subst hr
   have hd := List.mem_singleton.1 hd
   rw [up0] at hd; rw [hd] at hx ⊢
   exact adm_e nm tok (c := 1) (hd := head) (by decide) (by decide) hx
 rw [if_neg (show ¬(k = 11 ∨ k = 13) from fun h => h.elim k11 k13)] at hf
 by_cases k27 : k = 27
 · subst k27
   have hi : 0 < i := by simpa using hf
   simp at hr
   have : r = [101] := by
    cases l with
    | nil => simp [rowsL] at hr
    | cons y l' =>
     have e : rowsL 27 head 0 (y :: l') = [if head then 1020 else 20] :: List.replicate l'.length [101] := by rw [rowsL, rows_tail 27 head [101] (fun i hi => by simp; omega) l' (0 + 1) (by omega)]; rfl
     rw [e] at hr
     obtain ⟨j, rfl⟩ : ∃ j, i = j + 1 := ⟨i - 1, by omega⟩
     rw [List.getElem?_cons_succ] at hr
     exact List.eq_of_mem_replicate (List.mem_of_getElem? hr)
   subst this
   have hd := List.mem_singleton.1 hd
   subst hd
   exact adm_e nm tok (c := 1) (hd := false) (by omega) (by omega) hx
 rw [if_neg k27] at hf
 by_cases k15 : k = 15
 · subst k15
   have hi : i = 1 := by simpa using hf
   subst hi
   simp at hr; subst hr
   simp only [List.mem_cons, List.not_mem_nil, or_false] at hd
   rcases hd with rfl | rfl
   · exact adm_e nm tok (c := 1) (hd := true) (by omega) (by omega) hx
   · exact absurd (not_0 nm tok hx) h0
 rw [if_neg k15] at hf
 by_cases k14 : k = 14
 · subst k14
   have hi : i = 0 := by simpa using hf
   subst hi
   simp at hr; subst hr
   have hd := List.mem_singleton.1 hd
   subst hd
   exact adm_e nm tok (c := 1) (hd := true) (by omega) (by omega) hx
 rw [if_neg k14] at hf
 by_cases k10 : k = 10
 · subst k10
   simp at hr
   rw [rows_rep 10 head [11] (fun i => by simp)] at hr
   have := List.eq_of_mem_replicate (List.mem_of_getElem? hr)
   subst this
   have hd := List.mem_singleton.1 hd
   subst hd
   exact adm_11 nm tok hx
 by_cases k32 : k = 32
 · subst k32
   simp at hr
   rw [rows_rep 32 head [101] (fun i => by simp)] at hr
   have := List.eq_of_mem_replicate (List.mem_of_getElem? hr)
   subst this
   have hd := List.mem_singleton.1 hd
   subst hd
   exact adm_e nm tok (c := 1) (hd := false) (by omega) (by omega) hx
 by_cases k12 : k = 12
 · subst k12
   simp at hr
   have hr := List.mem_singleton.1 (List.mem_of_getElem? hr)
   subst hr
   have hd := List.mem_singleton.1 hd
   rw [up0] at hd; rw [hd] at hx ⊢
   exact adm_e nm tok (c := 1) (hd := head) (by decide) (by decide) hx
 by_cases k19 : k = 19
 · subst k19
   simp at hr
   split at hr
   · simp at hr
   · have hr := List.mem_singleton.1 (List.mem_of_getElem? hr)
     subst hr
     have hd := List.mem_singleton.1 hd
     subst hd
     exact adm_e nm tok (c := 1) (hd := false) (by omega) (by omega) hx
 by_cases k29 : k = 29
 · subst k29
   simp at hr
   have hr := List.mem_singleton.1 (List.mem_of_getElem? hr)
   subst hr
   have hd := List.mem_singleton.1 hd
   subst hd
   exact adm_e nm tok (c := 1) (hd := false) (by omega) (by omega) hx
 by_cases k33 : k = 33
 · subst k33
   simp at hr
   have hr := List.mem_singleton.1 (List.mem_of_getElem? hr)
   subst hr
   have hd := List.mem_singleton.1 hd
   subst hd
   exact adm_e nm tok (c := 1) (hd := false) (by omega) (by omega) hx
 by_cases k30 : k = 30
 · subst k30
   simp at hr
   have hr := List.mem_singleton.1 (List.mem_of_getElem? hr)
   subst hr
   have hd := List.mem_singleton.1 hd
   rw [up 5] at hd; rw [hd] at hx ⊢
   exact adm_e nm tok (c := 6) (by omega) (by omega) hx
 by_cases k31 : k = 31
 · subst k31
   have hl := hn rfl
   have hl5 := lev_le n
   simp at hr
   have hr := List.mem_of_getElem? hr
   simp only [List.mem_cons, List.not_mem_nil, or_false] at hr
   rcases hr with rfl | rfl
   · have hd := List.mem_singleton.1 hd
     rw [up] at hd; rw [hd] at hx ⊢
     exact adm_e nm tok (by omega) (by omega) hx
   · have hd := List.mem_singleton.1 hd
     rw [up] at hd; rw [hd] at hx ⊢
     exact adm_e nm tok (by omega) (by omega) hx
 · simp [k10, k12, k19, k29, k30, k31, k32, k33] at hf
theorem own_lev (k f t a : Int) (n : BL) (l : List Tree) (need : Nat) (h : isR nm tok (.mk k f t a n l) need = true) : k = 31 → 0 < levV n := by
 intro hk
 subst hk
 rw [isR_eq, Bool.and_eq_true] at h
 have h1 := h.1
 unfold ownR at h1
 simp only [Bool.and_eq_true] at h1
 have h2 := h1.1.1.1.1.1.2
 simp [nameR, Tree.kind, Tree.name] at h2
 exact of_decide_eq_true h2
def putK (k : Int) (i : Nat) (x : Tree) (left : Int) : Tree := if x.kind = 0 then x else (wrapV x left (freeK k i)).1
theorem wrapL_at (k : Int) : ∀ (l : List Tree) (i : Nat) (left : Int), (wrapL k i l left).1.length = l.length ∧ ∀ (j : Nat) (x : Tree), l[j]? = some x → ∃ lf, (wrapL k i l left).1[j]? = some (putK k (i + j) x lf)
 | [], i, left => ⟨rfl, fun j x h => by simp at h⟩
 | .mk k' f t a n l' :: l, i, left => by
  unfold wrapL
  by_cases h0 : k' = 0
  · rw [if_pos h0]
    obtain ⟨h1, h2⟩ := wrapL_at k l (i + 1) left
    refine ⟨by simp [h1], fun j x hj => ?_⟩
    cases j with
    | zero =>
     have : x = .mk k' f t a n l' := by simpa using hj.symm
     subst this
     exact ⟨left, by unfold putK; show some _ = some (if k' = 0 then _ else _); rw [if_pos h0]⟩
    | succ j =>
     obtain ⟨lf, h3⟩ := h2 j x (by simpa using hj)
     exact ⟨lf, by rw [show i + (j + 1) = i + 1 + j by omega]; simpa using h3⟩
  · rw [if_neg h0]
    obtain ⟨h1, h2⟩ := wrapL_at k l (i + 1) (wrapV (.mk k' f t a n l') left (freeK k i)).2
    refine ⟨by simp [h1], fun j x hj => ?_⟩
    cases j with
    | zero =>
     have : x = .mk k' f t a n l' := by simpa using hj.symm
     subst this
     exact ⟨left, by unfold putK; show some _ = some (if k' = 0 then _ else _); rw [if_neg h0]; rfl⟩
    | succ j =>
     obtain ⟨lf, h3⟩ := h2 j x (by simpa using hj)
     exact ⟨lf, by rw [show i + (j + 1) = i + 1 + j by omega]; simpa using h3⟩
theorem wrap_kind (t : Tree) (left : Int) (may : Bool) : (wrapV t left may).1.kind = t.kind ∨ ((isEx t.kind = true ∨ isSt t.kind = true) ∧ ((wrapV t left may).1.kind = 33 ∨ (wrapV t left may).1.kind = 10)) := by
 obtain ⟨k, f, tt, a, n, l⟩ := t
 unfold wrapV
 simp only
 split
 · rename_i h; exact .inr ⟨.inl h.2.2, .inl rfl⟩
 · split
   · rename_i h; exact .inr ⟨.inr h.2.2, .inr rfl⟩
   · exact .inl rfl
theorem sim_of : ∀ {l m : List Tree}, l.length = m.length → (∀ (j : Nat) (x y : Tree), l[j]? = some x → m[j]? = some y → (x.kind = 0 ↔ y.kind = 0) ∧ (x.kind = 2 ↔ y.kind = 2)) → SimL l m
 | [], [], _, _ => trivial
 | x :: l, y :: m, hl, h => ⟨(h 0 x y rfl rfl).1, (h 0 x y rfl rfl).2, sim_of (by simpa using hl) (fun j x' y' h1 h2 => h (j + 1) x' y' (by simpa using h1) (by simpa using h2))⟩
theorem put_kind (k : Int) (i : Nat) (x : Tree) (lf : Int) : (x.kind = 0 ↔ (putK k i x lf).kind = 0) ∧ (x.kind = 2 ↔ (putK k i x lf).kind = 2) := by
 unfold putK
 split
 · exact ⟨Iff.rfl, Iff.rfl⟩
 · rcases wrap_kind x lf (freeK k i) with h | ⟨h1, h2⟩
   · rw [h]; exact ⟨Iff.rfl, Iff.rfl⟩
   · have hx : x.kind ≠ 0 ∧ x.kind ≠ 2 := by
      rcases h1 with h | h
      · simp [isEx] at h; omega
      · simp [isSt] at h; omega
     omega
theorem wrapL_sim (k : Int) (l : List Tree) (left : Int) : SimL l (wrapL k 0 l left).1 := by
 obtain ⟨h1, h2⟩ := wrapL_at k l 0 left
 refine sim_of h1.symm (fun j x y hx hy => ?_)
 obtain ⟨lf, h3⟩ := h2 j x hx
 rw [h3] at hy; cases hy
 exact put_kind k (0 + j) x lf
theorem wrap_ok : ∀ (t : Tree) (need : Nat) (left : Int) (may : Bool), isR nm tok t need = true → (may = true → Adm need t.kind) → isR nm tok (wrapV t left may).1 need = true := by
 refine tree_ind (fun k f t a n l ih need left may hR hA => ?_)
 have hin : isR nm tok (.mk k f t a n (wrapL k 0 l (left - 1)).1) need = true := by
  obtain ⟨h1, h2⟩ := wrapL_at k l 0 (left - 1)
  refine sim_is nm tok k f t a n l _ need (wrapL_sim k l _) h1.symm (fun i r x y hr hx hy hany => ?_) hR
  obtain ⟨lf, h3⟩ := h2 i x hx
  rw [h3, Nat.zero_add] at hy
  cases hy
  unfold putK
  by_cases h0 : x.kind = 0
  · rw [if_pos h0]; exact hany
  · rw [if_neg h0]
    unfold anyR at hany ⊢
    obtain ⟨d, hd, hdx⟩ := List.any_eq_true.1 hany
    refine List.any_eq_true.2 ⟨d, hd, ih x (List.mem_of_getElem? hx) d lf _ hdx (fun hf => ?_)⟩
    exact adm_at nm tok k f t a n l _ _ (own_lev nm tok k f t a n l need hR) i r x d hr hd hf hdx h0
 unfold wrapV
 simp only
 split
 · rename_i h
   obtain ⟨c, hd, h1, h7, rfl⟩ := (hA h.2.1).1 h.2.2
   rw [isE nm tok 33 0 0 0 [] _ c hd h1 h7]
   have he := e_any nm tok _ c hd h1 h7 hin
   show (if (33 : Int) = 31 then _ else _) = true
   simp [eKind, allP, he]
 · split
   · rename_i h
     have := (hA h.2.1).2 h.2.2
     subst this
     rw [isR_eq, isRL_eq]
     have hl : (rowR (.mk 10 0 0 0 [] [.mk k f t a n (wrapL k 0 l (left - 1)).1]) (needOf 11).1 (needOf 11).2.1).1 = [[11]] := rfl
     rw [hl, Bool.and_eq_true]
     exact ⟨rfl, by rw [List.map_cons, List.map_nil, any1]; simp [allP, hin]⟩
   · exact hin
end
section
variable (nm : BL → Bool) (tok : BL → Int → Bool)
theorem kinds_in (need : Nat) (k : Int) (h : (kindsR need).contains k = true) : 0 ≤ k ∧ k ≤ 33 := by
 have hm := List.contains_iff_mem.1 h
 unfold kindsR expK at hm
 split at hm
 · simp only [List.mem_cons, List.not_mem_nil, or_false] at hm; omega
 · split at hm <;> simp only [List.mem_cons, List.not_mem_nil, or_false] at hm <;> omega
theorem mem_eachL : ∀ {l : List Tree} {x : Tree}, x ∈ eachL l → ∃ y ∈ l, x ∈ eachV y
 | [], x, h => by simp [eachL] at h
 | t :: l, x, h => by
  unfold eachL at h
  rcases List.mem_append.1 h with h | h
  · exact ⟨t, by simp, h⟩
  · obtain ⟨y, hy, hx⟩ := mem_eachL h; exact ⟨y, List.mem_cons_of_mem _ hy, hx⟩
theorem allP_mem : ∀ {ps : List (Tree → Bool)} {l : List Tree}, allP ps l = true → ∀ x ∈ l, ∃ p ∈ ps, p x = true
 | [], [], _, x, h => by simp at h
 | [], _ :: _, h, _, _ => by simp [allP] at h
 | _ :: _, [], _, x, h => by simp at h
 | p :: ps, y :: l, h, x, hx => by
  unfold allP at h
  rw [Bool.and_eq_true] at h
  rcases List.mem_cons.1 hx with rfl | hx
  · exact ⟨p, by simp, h.1⟩
  · obtain ⟨q, hq, hqx⟩ := allP_mem h.2 x hx; exact ⟨q, List.mem_cons_of_mem _ hq, hqx⟩
theorem rl_mem {rs : List (List Nat)} {l : List Tree} (h : isRL nm tok l rs = true) : ∀ x ∈ l, ∃ d, isR nm tok x d = true := by
 rw [isRL_eq] at h
 intro x hx
 obtain ⟨p, hp, hpx⟩ := allP_mem h x hx
 obtain ⟨r, hr, rfl⟩ := List.mem_map.1 hp
 unfold anyR at hpx
 obtain ⟨d, hd, hdx⟩ := List.any_eq_true.1 hpx
 exact ⟨d, hdx⟩
theorem is_each : ∀ (t : Tree) (need : Nat), isR nm tok t need = true → ∀ x ∈ eachV t, 1 ≤ x.kind ∧ x.kind ≤ 33 := by
 refine tree_ind (fun k f t a n l ih need h x hx => ?_)
 unfold eachV at hx
 by_cases h0 : k = 0
 · rw [if_pos h0] at hx; simp at hx
 · rw [if_neg h0] at hx
   rcases List.mem_cons.1 hx with rfl | hx
   · have := kinds_in _ _ (is_kind nm tok _ need h)
     show 1 ≤ k ∧ k ≤ 33
     have e : (Tree.mk k f t a n l).kind = k := rfl
     omega
   · obtain ⟨y, hy, hxy⟩ := mem_eachL hx
     rw [isR_eq, Bool.and_eq_true] at h
     obtain ⟨d, hd⟩ := rl_mem nm tok h.2 y hy
     exact ih y hy d hd x hxy
theorem file_each (t : Tree) (h : fileV nm tok t = true) : ∀ x ∈ eachV t, 1 ≤ x.kind ∧ x.kind ≤ 33 := by
 obtain ⟨k, f, t, a, n, l⟩ := t
 unfold fileV at h
 simp only [Bool.and_eq_true, decide_eq_true_eq] at h
 intro x hx
 unfold eachV at hx
 have hk : k = 1 := h.1.1
 rw [if_neg (by omega)] at hx
 rcases List.mem_cons.1 hx with rfl | hx
 · show 1 ≤ k ∧ k ≤ 33; omega
 · obtain ⟨y, hy, hxy⟩ := mem_eachL hx
   obtain ⟨d, hd⟩ := rl_mem nm tok h.2 y hy
   exact is_each nm tok y d hd x hxy
theorem depthL_le : ∀ (l : List Tree), (∀ x ∈ l, depthV x ≤ (eachV x).length) → depthL l ≤ (eachL l).length
 | [], _ => Nat.le_refl _
 | t :: l, h => by
  unfold depthL eachL
  have h1 := h t (by simp)
  have h2 := depthL_le l (fun x hx => h x (List.mem_cons_of_mem _ hx))
  rw [List.length_append]; omega
theorem depth_le : ∀ t : Tree, depthV t ≤ (eachV t).length := by
 refine tree_ind (fun k f t a n l ih => ?_)
 unfold depthV eachV
 by_cases h : k = 0
 · rw [if_pos h, if_pos h]; exact Nat.zero_le _
 · rw [if_neg h, if_neg h, List.length_cons]
   have := depthL_le l ih; omega
theorem wrap_file (t : Tree) (left : Int) (h : fileV nm tok t = true) : fileV nm tok (wrapV t left false).1 = true := by
 obtain ⟨k, f, t, a, n, l⟩ := t
 unfold fileV at h
 simp only [Bool.and_eq_true, Tree.kind, Tree.name, Tree.kids] at h
 obtain ⟨⟨hk, hn⟩, hr⟩ := h
 have hk : k = 1 := of_decide_eq_true hk
 subst hk
 unfold wrapV
 simp only [Bool.false_eq_true, false_and, and_false, if_false]
 unfold fileV
 simp only [Tree.kind, Tree.name, Tree.kids, hn, decide_true, Bool.true_and]
 obtain ⟨h1, h2⟩ := wrapL_at 1 l 0 (left - 1)
 rw [← sim_rowsF l _ true (wrapL_sim 1 l (left - 1))]
 rw [isRL_eq] at hr ⊢
 refine allP_at h1.symm (fun i p x y hp hx hy hany => ?_) hr
 obtain ⟨lf, h3⟩ := h2 i x hx
 rw [h3, Nat.zero_add] at hy
 cases hy
 rw [List.getElem?_map] at hp
 cases hq : (rowsF true l)[i]? with
 | none => rw [hq] at hp; cases hp
 | some r =>
  rw [hq] at hp
  cases hp
  unfold putK
  by_cases h0 : x.kind = 0
  · rw [if_pos h0]; exact hany
  · rw [if_neg h0]
    unfold anyR at hany ⊢
    obtain ⟨d, hd, hdx⟩ := List.any_eq_true.1 hany
    refine List.any_eq_true.2 ⟨d, hd, wrap_ok nm tok x d lf _ hdx (fun hf => ?_)⟩
    simp [freeK] at hf
end
theorem info24 : (Tryz.prog.info? 24).map (fun i => (i.zero, i.size, i.bytes)) = some (some (.agg #[.int .i64 0, .int .i64 0, .int .i64 0, .int .i64 0, .string ⟨#[]⟩, .slice none 0 0]), 6, 72) := by kernel_rfl
theorem ReadL.app {w : World} {B : Nat} {L M : List Tree} {rs ss : List RN} (h : ReadL w B L rs) (k : ReadL w B M ss) : ReadL w B (L ++ M) (rs ++ ss) := by
 refine ⟨by simp [h.1, k.1], fun i y s hy hs => ?_⟩
 rcases Nat.lt_or_ge i L.length with hi | hi
 · rw [List.getElem?_append_left hi] at hy
   rw [List.getElem?_append_left (by rw [h.1]; exact hi)] at hs
   exact h.2 i y s hy hs
 · rw [List.getElem?_append_right hi] at hy
   rw [List.getElem?_append_right (by rw [h.1]; exact hi), h.1] at hs
   exact k.2 _ y s hy hs
section
def Stays (J : Nat → World → Prop) : Prop := ∀ k W W', J k W → Below W.heap.size W W' → J k W'
theorem Kept.of_below {M : Nat → Prop} {A B : World} (h : Below A.heap.size A B) : Kept M A B := ⟨h.size, fun b hb _ => h.block b hb⟩
theorem Kept.putObj (M : Nat → Prop) (A : World) (r : Nat) (o : Obj) (h : M r) : Kept M A (A.putObj r o) :=
 ⟨by simp, fun b _ hm => World.putObj_heap_other fun e => hm (e ▸ h)⟩
theorem below_putObj {B : Nat} (A : World) (r : Nat) (o : Obj) (h : B ≤ r) : Below B A (A.putObj r o) :=
 ⟨rfl, rfl, rfl, by simp, fun k hk => World.putObj_heap_other (by omega)⟩
def StaysX (J : World → Prop) : Prop := ∀ W W', J W → Below W.heap.size W W' → J W'
def Hands2 (P : Program) (gf : Nat) (lb : Array Value) (N : Nat) (el : Nat → Value) (KK : World → Prop) : Prop :=
 ∀ (l : Nat) (J : Nat → World → Prop) (Jx : World → Prop) (M : Nat → Prop) (W : World), (∀ b, M b → b < W.heap.size) → Stays J → StaysX Jx → (∀ k W1, J k W1 → KK W1 ∧ W.heap.size ≤ W1.heap.size) →
  (∀ k W1, J k W1 → k < N → YieldAt Fence.wide 0 P l #[el k] W1 fun e W' => (e = .returned (.bool true) ∧ J (k + 1) W' ∧ Kept M W1 W') ∨ (e = .returned (.bool false) ∧ Jx W')) → J 0 W →
  Calls P gf (#[.func (.yield l) #[] #[]] ++ lb) W fun e W' => (∃ v, e = .returned v) ∧ (J N W' ∨ Jx W')
def RoundPost (Mc : Nat → Prop) (I : Nat → World → Prop) (Ix : Code → World → Prop) (k : Nat) (W : World) : Exit → Act → World → Prop := fun e _ W' => Kept Mc W W' ∧ match e with
 | .normal => I (k + 1) W'
 | .ret => Ix .ret W'
 | .exit id => Ix (.exit id) W'
 | _ => False
variable {P : Program}
theorem wide_range3 {g : Operand} {p : Tmp} {assign body : Code} {Q : Exit → Act → World → Prop} {a : Act} {w : World} {gf : Nat} {lb : Array Value}
  (hg : a.eval g = .func (.func gf) #[] lb) (eg : ∀ args w, (callFunc gf args).run P w = .ok (.enter gf args) w)
  {N : Nat} {el : Nat → Value} {KK : World → Prop} (hseq : Hands2 P gf lb N el KK) (I : Nat → World → Prop) (Ix : Code → World → Prop) (Mc : Nat → Prop) (hMc : ∀ b, Mc b → b < w.heap.size)
  (hI : ∀ k W W', I k W → Below w.heap.size W W' → I k W') (hIx : ∀ c W W', Ix c W → Below w.heap.size W W' → Ix c W') (hKK : ∀ k W, I k W → KK W) (h0 : I 0 w) (a₁ : Nat → Nat → Act) (ob : Nat → Obj)
  (hassign : ∀ (l k : Nat) (W : World) (K : Act → World → Prop), K (a₁ k W.heap.size) (W.alloc (ob k)) →
   assign.wpIn (Fence.wide.inRound l) 0 P (Exit.then K (fun _ _ _ => False)) { tmps := a.tmps.setIfInBounds p (el k), defers := [] } W)
  (hbody : ∀ (l k b : Nat) (W : World), I k W → k < N → W.heap[b]? = some (ob k) → w.heap.size ≤ b → body.wpIn (Fence.wide.inRound l) 0 P (RoundPost Mc I Ix k W) (a₁ k b) W)
  (hdone : ∀ (D : Nat) (W : World), w.heap.size ≤ D → I N W → W.heap[D]? = some (.deferred (some [])) → Q .normal { a with defers := { target := .collected D, args := #[] } :: a.defers } W)
  (hstop : ∀ (D : Nat) (c : Code) (W : World), w.heap.size ≤ D → Ix c W → W.heap[D]? = some (.deferred (some [])) → c.wpIn Fence.wide 0 P Q { a with defers := { target := .collected D, args := #[] } :: a.defers } W) :
  (Code.rangeFunc g #[p] assign body).wpIn Fence.wide 0 P Q a w := by
 refine wpIn_rangeFunc fun fn hfn => ?_
 obtain ⟨rec, hrec⟩ : ∃ rec : LoopState → Option Code → Loop, rec = fun st pe => { state := st, pending := pe, fn, tmps := a.tmps, params := #[p], assign, body, defers := w.heap.size } := ⟨_, rfl⟩
 generalize hW1 : (w.alloc (.deferred (some []))).alloc (.loop (rec .ready none)) = W1
 have hL1 : W1.heap[w.heap.size + 1]? = some (.loop (rec .ready none)) := by
  rw [← hW1]
  have := World.alloc_heap_new (w.alloc (.deferred (some []))) (.loop (rec .ready none))
  rwa [World.size_alloc] at this
 have hK1 : W1.heap[w.heap.size]? = some (.deferred (some [])) := by
  rw [← hW1]
  exact (Below.heap_alloc _ _ _ (by simp)).trans (World.alloc_heap_new w _)
 have hs1 : W1.heap.size = w.heap.size + 2 := by rw [← hW1]; simp
 have hI1 : I 0 W1 := hI 0 w W1 h0 (by rw [← hW1]; exact ((Below.refl _ _).alloc (Nat.le_refl _) _).alloc (by simp) _)
 let J : Nat → World → Prop := fun k W => I k W ∧ W.heap[w.heap.size + 1]? = some (.loop (rec .ready none)) ∧ W.heap[w.heap.size]? = some (.deferred (some []))
 let Jx : World → Prop := fun W => ∃ c, Ix c W ∧ W.heap[w.heap.size + 1]? = some (.loop (rec .done (some c))) ∧ W.heap[w.heap.size]? = some (.deferred (some []))
 have hJs : Stays J := fun k W W' ⟨hi, hl, hk⟩ hb => by
  have hlt := (Array.getElem?_eq_some_iff.1 hl).1
  exact ⟨hI k W W' hi (hb.mono (by omega)), (hb.block _ hlt).trans hl, (hb.block _ (by omega)).trans hk⟩
 have hJxs : StaysX Jx := fun W W' ⟨c, hi, hl, hk⟩ hb => by
  have hlt := (Array.getElem?_eq_some_iff.1 hl).1
  exact ⟨c, hIx c W W' hi (hb.mono (by omega)), (hb.block _ hlt).trans hl, (hb.block _ (by omega)).trans hk⟩
 refine ⟨w.heap.size + 1, [{ target := .collected w.heap.size, args := #[] }], W1, { target := .fn (.func gf) lb, args := #[.func (.yield (w.heap.size + 1)) #[] #[]] }, W1, gf,
  #[.func (.yield (w.heap.size + 1)) #[] #[]] ++ lb, W1, ?_, ?_, fun _ _ => trivial, ?_, fun h => by simp [Fence.wide] at h, ?_⟩
 · rw [← hW1, hrec]; exact run_enterLoop_outer (P := P) (w := w) fn a.tmps #[p] assign body
 · simp only [resolve, hg]
   simp [go_sem]
 · simp [invoke, go_sem, eg]
 · refine (callsIn_wide.2 (hseq (w.heap.size + 1) J Jx (fun b => Mc b ∨ b = w.heap.size + 1) W1 ?_ hJs hJxs (fun k W h => ⟨hKK k W h.1, ?_⟩) ?_ (show J 0 W1 from ⟨hI1, hL1, hK1⟩))).mono ?_
   · rintro b (hb | rfl)
     · have := hMc b hb; omega
     · omega
   · have := (Array.getElem?_eq_some_iff.1 h.2.1).1
     omega
   · rintro k W ⟨hi, hl, hk⟩ hlt
     have hsz : w.heap.size + 1 < W.heap.size := (Array.getElem?_eq_some_iff.1 hl).1
     have hy := run_yield (P := P) (args := #[el k]) hl (by rw [hrec]; rfl)
     rw [hrec] at hy
     have hz : Array.foldl (fun tmps (x : Nat × Value) => tmps.setIfInBounds x.1 x.2) a.tmps (#[p].zip #[el k]) = a.tmps.setIfInBounds p (el k) := by simp
     change _ = Result.ok (Next.round _ _ (Array.foldl (fun tmps (x : Nat × Value) => tmps.setIfInBounds x.1 x.2) a.tmps (#[p].zip #[el k])) _ _) _ at hy
     rw [hz] at hy
     refine ⟨fn, _, assign, body, hy, roundIn_of_wpIn hfn (hassign _ k W _ ?_)⟩
     have hl1 : (W.alloc (ob k)).heap[w.heap.size + 1]? = some (.loop (rec .ready none)) := (Below.heap_alloc W (ob k) _ hsz).trans hl
     have hk1 : (W.alloc (ob k)).heap[w.heap.size]? = some (.deferred (some [])) := (Below.heap_alloc W (ob k) _ (by omega)).trans hk
     have hsA : (W.alloc (ob k)).heap.size = W.heap.size + 1 := World.size_alloc _ _
     have hiA : I k (W.alloc (ob k)) := hI _ _ _ hi (((Below.refl _ _).alloc (Nat.le_refl _) _).mono (by omega))
     have hbA : ((W.alloc (ob k)).putObj (w.heap.size + 1) (.loop { rec .ready none with state := .busy })).heap[W.heap.size]? = some (ob k) := (World.putObj_heap_other (by omega)).trans (World.alloc_heap_new W (ob k))
     have hKA : Kept (fun b => Mc b ∨ b = w.heap.size + 1) W (W.alloc (ob k)) := Kept.of_below ((Below.refl _ _).alloc (Nat.le_refl _) _)
     clear hl hk hi
     generalize hWA : W.alloc (ob k) = WA at *
     refine ⟨_, run_beginRound hl1 (by rw [hrec]), ?_⟩
     have hszA : w.heap.size + 1 < WA.heap.size := by omega
     have hl2 : (WA.putObj (w.heap.size + 1) (.loop { rec .ready none with state := .busy })).heap[w.heap.size + 1]? = some (.loop { rec .ready none with state := .busy }) := World.putObj_heap_same hszA
     have hk2 : (WA.putObj (w.heap.size + 1) (.loop { rec .ready none with state := .busy })).heap[w.heap.size]? = some (.deferred (some [])) := (World.putObj_heap_other (by omega)).trans hk1
     have hsz2 : (WA.putObj (w.heap.size + 1) (.loop { rec .ready none with state := .busy })).heap.size = WA.heap.size := by simp
     refine wpIn_mono (hbody _ k _ _ (hI _ _ _ hiA (below_putObj _ _ _ (by omega))) hlt hbA (by omega)) ?_
     have fin : ∀ (jump : Option Code) (W3 : World), Kept Mc (WA.putObj (w.heap.size + 1) (.loop { rec .ready none with state := .busy })) W3 →
       (Instr.endRound (w.heap.size + 1) jump).run P W3 = .ok (.bool jump.isNone) (W3.putObj (w.heap.size + 1) (.loop (rec (if jump.isNone then .ready else .done) jump))) ∧
       w.heap.size + 2 ≤ W3.heap.size ∧
       (W3.putObj (w.heap.size + 1) (.loop (rec (if jump.isNone then .ready else .done) jump))).heap[w.heap.size + 1]? = some (.loop (rec (if jump.isNone then .ready else .done) jump)) ∧
       (W3.putObj (w.heap.size + 1) (.loop (rec (if jump.isNone then .ready else .done) jump))).heap[w.heap.size]? = some (.deferred (some [])) := fun jump W3 hko => by
      have hl3 := (hko.2 (w.heap.size + 1) (by omega) (fun h => by have := hMc _ h; omega)).trans hl2
      have hk3 := (hko.2 w.heap.size (by omega) (fun h => by have := hMc _ h; omega)).trans hk2
      have := run_endRound (P := P) jump hl3
      rw [hrec] at this ⊢
      exact ⟨this, (Array.getElem?_eq_some_iff.1 hl3).1, World.putObj_heap_same (Array.getElem?_eq_some_iff.1 hl3).1, (World.putObj_heap_other (by omega)).trans hk3⟩
     rintro e a3 W3 ⟨hko, hp⟩
     cases e with
     | normal =>
      obtain ⟨hr, hl3, hl4, hk4⟩ := fin none W3 hko
      exact ⟨_, _, hr, .inl ⟨rfl, ⟨hI _ _ _ hp (below_putObj _ _ _ (by omega)), hl4, hk4⟩, hKA.trans (((Kept.putObj (fun b => Mc b ∨ b = w.heap.size + 1) WA _ _ (.inr rfl)).trans (hko.mono fun b h => .inl h)).trans (Kept.putObj _ _ _ _ (.inr rfl)))⟩⟩
     | ret =>
      obtain ⟨hr, hl3, hl4, hk4⟩ := fin (some .ret) W3 hko
      exact ⟨_, _, hr, .inr ⟨rfl, .ret, hIx _ _ _ hp (below_putObj _ _ _ (by omega)), hl4, hk4⟩⟩
     | exit id =>
      obtain ⟨hr, hl3, hl4, hk4⟩ := fin (some (.exit id)) W3 hko
      exact ⟨_, _, hr, .inr ⟨rfl, .exit id, hIx _ _ _ hp (below_putObj _ _ _ (by omega)), hl4, hk4⟩⟩
     | goto t => exact hp.elim
     | panic ch => exact hp.elim
     | outgrown => exact hp.elim
   · rintro e W2 ⟨⟨v, rfl⟩, (⟨hi, hl, hk⟩ | ⟨c, hi, hl, hk⟩)⟩
     · exact ⟨none, _, by have := run_endLoop (P := P) hl (by rw [hrec]; simp); rw [hrec] at this; exact this, hdone _ _ (Nat.le_refl _) (hI _ _ _ hi (below_putObj _ _ _ (by omega))) ((World.putObj_heap_other (by omega)).trans hk)⟩
     · exact ⟨some c, _, by have := run_endLoop (P := P) hl (by rw [hrec]; simp); rw [hrec] at this; exact this, hstop _ c _ (Nat.le_refl _) (hIx _ _ _ hi (below_putObj _ _ _ (by omega))) ((World.putObj_heap_other (by omega)).trans hk)⟩
end
inductive NodeS (w : World) (S : Nat → Prop) : Tree → RN → Prop where
 | mk (k f t a : Int) (n : BL) (l : List Tree) (A : Option Addr) (cap : Nat) (rs : List RN) (b off : Nat) (hA : 0 < l.length → A = some ⟨b, off, none⟩ ∧ S b) (hl : rs.length = l.length)
   (hc : ∀ (i : Nat) (x : RN), rs[i]? = some x → ∀ (j : Nat) (v : Value), x.cells[j]? = some v → w.cell? ⟨b, off + i * 6 + j, none⟩ = some v)
   (hk : ∀ (i : Nat) (x : Tree) (r : RN), l[i]? = some x → rs[i]? = some r → NodeS w S x r) : NodeS w S (.mk k f t a n l) ⟨k, f, t, a, toBA n, A, l.length, cap⟩
section
variable {w w' : World} {S S' : Nat → Prop} {t : Tree} {r : RN}
theorem NodeS.keep (h : NodeS w S t r) (hk : ∀ p : Addr, S p.block → w'.cell? p = w.cell? p) (hS : ∀ b, S b → S' b) : NodeS w' S' t r := by
 induction h with
 | mk k f t a n l A cap rs b off hA hl hc hks ih =>
  refine .mk k f t a n l A cap rs b off (fun h => ⟨(hA h).1, hS _ (hA h).2⟩) hl (fun i x hx j v hv => ?_) ih
  have h0 : 0 < l.length := by have := (List.getElem?_eq_some_iff.1 hx).1; omega
  exact (hk _ (hA h0).2).trans (hc i x hx j v hv)
theorem NodeS.toM {B : Nat} (h : NodeS w S t r) (hS : ∀ b, S b → b < B) : NodeM w B t r := by
 induction h with
 | mk k f t a n l A cap rs b off hA hl hc hks ih =>
  exact .mk k f t a n l A cap rs (fun h => ⟨b, off, (hA (by omega)).1, hS _ (hA (by omega)).2, hc⟩) hl ih
theorem NodeM.toS {B : Nat} (h : NodeM w B t r) : NodeS w (fun b => b < B) t r := by
 induction h with
 | mk k f t a n l A cap rs hr hl hks ih =>
  by_cases h0 : 0 < rs.length
  · obtain ⟨b, off, hA, hb, hc⟩ := hr h0
    exact .mk k f t a n l A cap rs b off (fun _ => ⟨hA, hb⟩) hl hc ih
  · exact .mk k f t a n l A cap rs 0 0 (fun h => absurd (by omega) h0) hl (fun i x hx => absurd (by have := (List.getElem?_eq_some_iff.1 hx).1; omega) h0) ih
def KeepS (S : Nat → Prop) (w w' : World) : Prop := ∀ b, S b → w'.heap[b]? = w.heap[b]?
theorem NodeS.on (h : NodeS w S t r) (hk : KeepS S w w') : NodeS w' S t r := h.keep (fun p hp => World.cell?_of_block (hk _ hp)) (fun _ h => h)
theorem NodeS.more (h : NodeS w S t r) (hS : ∀ b, S b → S' b) : NodeS w S' t r := h.keep (fun _ _ => rfl) hS
end
def SepL (w : World) (S : Nat → Prop) (L : List Tree) (rs : List RN) : Prop := rs.length = L.length ∧ ∀ (i : Nat) (x : Tree) (r : RN), L[i]? = some x → rs[i]? = some r → NodeS w S x r
theorem SepL.nil_ {w : World} {S : Nat → Prop} : SepL w S [] [] := ⟨rfl, fun i x r h => by simp at h⟩
theorem SepL.snoc {w : World} {S : Nat → Prop} {x : Tree} {r : RN} {L : List Tree} {rs : List RN} (hL : SepL w S L rs) (h : NodeS w S x r) : SepL w S (L ++ [x]) (rs ++ [r]) := by
 refine ⟨by simp [hL.1], fun i y s hy hs => ?_⟩
 by_cases hi : i < L.length
 · rw [List.getElem?_append_left hi] at hy
   rw [List.getElem?_append_left (by rw [hL.1]; exact hi)] at hs
   exact hL.2 i y s hy hs
 · rw [List.getElem?_append_right (by omega)] at hy
   rw [List.getElem?_append_right (by rw [hL.1]; omega), hL.1] at hs
   have h0 : i - L.length = 0 := by
    have := (List.getElem?_eq_some_iff.1 hy).1
    simp at this; omega
   rw [h0] at hy hs
   cases hy; cases hs
   exact h
theorem SepL.keep {w w' : World} {S S' : Nat → Prop} {L : List Tree} {rs : List RN} (h : SepL w S L rs) (hk : KeepS S w w') (hS : ∀ b, S b → S' b) : SepL w' S' L rs :=
 ⟨h.1, fun i x r hx hr => ((h.2 i x r hx hr).on hk).more hS⟩
def Sp (B0 oB : Nat) (V : Value) (w : World) (b : Nat) : Prop := (b < B0 ∨ oB < b) ∧ b < w.heap.size ∧ V.ownBlock ≠ some b
theorem sep_step {B0 oB g lo n c : Nat} {V : Value} {M : Nat → Prop} {wr w2 w4 w5 w6 : World} {ms : List Tree} {rs : List RN} {m : Tree} {s : RN} (hM : ∀ b, M b → B0 ≤ b ∧ b < lo ∧ (b ≤ oB ∨ wr.heap.size ≤ b)) (k1 : Kept M wr w2) (k2 : Kept M w2 w4)
  (h5 : w4.grownBy w5 V.ownBlock) (k3 : Kept M w5 w6) (hlo : wr.heap.size ≤ lo) (h0 : B0 ≤ oB) (hoB : oB < wr.heap.size) (hown : ∀ k, V.ownBlock = some k → oB < k ∧ k < wr.heap.size) (hg : V.ownBlock = some g ∨ w4.heap.size ≤ g)
  (hs : SepL wr (Sp B0 oB V wr) ms rs) (hn : NodeS w2 (fun b => b < B0 ∨ (lo ≤ b ∧ b < w2.heap.size)) m s) : SepL w6 (Sp B0 oB (.slice (some ⟨g, 0, none⟩) n c) w6) (ms ++ [m]) (rs ++ [s]) := by
 have z1 := k1.1
 have z2 := k2.1
 have z3 := h5.size
 have z4 := k3.1
 have hgs : ∀ k, V.ownBlock = some k → oB < k ∧ k < wr.heap.size := hown
 refine SepL.snoc (hs.keep (fun b hb => ?_) (fun b hb => ?_)) ((hn.on (fun b hb => ?_)).more (fun b hb => ?_))
 · obtain ⟨h1, h2, h3⟩ := hb
   have hm : ¬ M b := fun h => by have := hM b h; omega
   exact (k3.2 b (by omega) hm).trans ((h5.block b (by omega) (fun e => h3 e.symm)).trans ((k2.2 b (by omega) hm).trans (k1.2 b h2 hm)))
 · obtain ⟨h1, h2, h3⟩ := hb
   refine ⟨h1, by omega, fun e => ?_⟩
   have e : g = b := Option.some.inj e
   rcases hg with hg | hg
   · exact h3 (by rw [hg, e])
   · omega
 · have hm : ¬ M b := fun h => by have := hM b h; omega
   have hlt : b < w2.heap.size := by omega
   have h3 : ¬ V.ownBlock = some b := fun e => by have := hown b e; omega
   exact (k3.2 b (by omega) hm).trans ((h5.block b (by omega) (fun e => h3 e.symm)).trans (k2.2 b (by omega) hm))
 · refine ⟨by omega, by omega, fun e => ?_⟩
   have e : g = b := Option.some.inj e
   rcases hg with hg | hg
   · have := hown g hg; omega
   · omega
theorem own_keepN {w w' : World} {B : Nat} {v : Value} {l : List RN} (h : OwnN w B v l) (hk : ∀ q, v.ownBlock = some q → w'.heap[q]? = w.heap[q]?) : OwnN w' B v l := by
 refine ⟨h.1, ?_⟩
 rcases h.2 with h2 | ⟨g, cap, cur, hv, hB, hg, rest⟩
 · exact .inl h2
 · exact .inr ⟨g, cap, cur, hv, hB, (hk g (by rw [hv]; rfl)).trans hg, rest⟩
theorem own_ne {w : World} {B b : Nat} {v : Value} {l : List RN} (h : OwnN w B v l) (hb : b < B) : some b ≠ v.ownBlock := fun e => by have := (h.lt b e.symm).1; omega
theorem set_box {w : World} {b n c : Nat} {r : RN} {A : Option Addr} (h : w.heap[b]? = some (boxC r)) : (w.setCell ⟨b, 5, none⟩ (.slice A n c)).heap[b]? = some (boxC ⟨r.kind, r.fr, r.en, r.at_, r.name, A, n, c⟩) := by
 rw [set_heap h]; rfl
structure Made (B0 b0 oB : Nat) (ro : RN) (A : Option Addr) (n c : Nat) (ms : List Tree) (rs : List RN) (w : World) : Prop where
 box : w.heap[oB]? = some (boxC ⟨ro.kind, ro.fr, ro.en, ro.at_, ro.name, A, n, c⟩)
 own : OwnN w (oB + 1) (.slice A n c) rs
 sep : SepL w (Sp B0 oB (.slice A n c) w) ms rs
 len : ms.length = n
theorem Made.rlen {B0 b0 oB : Nat} {ro : RN} {A : Option Addr} {n c : Nat} {ms : List Tree} {rs : List RN} {w : World} (h : Made B0 b0 oB ro A n c ms rs w) : rs.length = n := by rw [h.sep.1, h.len]
theorem Made.next {B0 b0 oB g lo n c c2 : Nat} {ro : RN} {A : Option Addr} {M : Nat → Prop} {wr w2 w4 w5 : World} {ms : List Tree} {rs : List RN} {m : Tree} {s : RN} (h : Made B0 b0 oB ro A n c ms rs wr)
  (hM : ∀ b, M b → B0 ≤ b ∧ b < lo ∧ (b < oB ∨ wr.heap.size ≤ b)) (k1 : Kept M wr w2) (k2 : Kept M w2 w4) (h5 : w4.grownBy w5 (Value.slice A n c).ownBlock) (hlo : wr.heap.size ≤ lo) (h0 : B0 ≤ oB)
  (hg : (Value.slice A n c).ownBlock = some g ∨ w4.heap.size ≤ g) (hgl : oB < g) (ho : OwnN w5 (oB + 1) (.slice (some ⟨g, 0, none⟩) (n + 1) c2) (rs ++ [s]))
  (hn : NodeS w2 (fun b => b < B0 ∨ (lo ≤ b ∧ b < w2.heap.size)) m s) : Made B0 b0 oB ro (some ⟨g, 0, none⟩) (n + 1) c2 (ms ++ [m]) (rs ++ [s]) (w5.setCell ⟨oB, 5, none⟩ (.slice (some ⟨g, 0, none⟩) (n + 1) c2)) := by
 have hoB : oB < wr.heap.size := (Array.getElem?_eq_some_iff.1 h.box).1
 have z1 := k1.1
 have z2 := k2.1
 have hm : ¬ M oB := fun e => by have := hM oB e; omega
 refine ⟨?_, own_keepN ho fun q hq => set_other (by have e : g = q := Option.some.inj hq; omega), ?_, by rw [List.length_append, h.len]; rfl⟩
 · have h1 := (h5.block oB (by omega) (own_ne h.own (by omega))).trans ((k2.2 oB (by omega) hm).trans ((k1.2 oB hoB hm).trans h.box))
   have h2 := set_box (n := n + 1) (c := c2) (A := some ⟨g, 0, none⟩) h1
   exact h2
 · exact sep_step (M := fun b => M b ∨ b = oB) (lo := lo) (fun b hb => by rcases hb with hb | hb; (have := hM b hb; omega); omega) (k1.mono fun b hb => .inl hb) (k2.mono fun b hb => .inl hb) h5 (Kept.setCell _ w5 ⟨oB, 5, none⟩ _ (.inr rfl)) hlo h0 hoB
    (fun k hk => by have := h.own.lt k hk; omega) hg h.sep hn
mutual
theorem each_cost : ∀ t : Tree, (eachV t).length ≤ costT t
 | .mk k f e a n l => by
  have := eachL_cost l
  rw [eachV, costT]
  split
  · simp
  · rw [List.length_cons]; omega
theorem eachL_cost : ∀ l : List Tree, (eachL l).length ≤ costL l
 | [] => by simp [eachL]
 | t :: l => by
  have h1 := each_cost t
  have h2 := eachL_cost l
  rw [eachL, costL, List.length_append]; omega
end
theorem eachL_snoc : ∀ (l : List Tree) (x : Tree), eachL (l ++ [x]) = eachL l ++ eachV x
 | [], x => by simp [eachL]
 | t :: l, x => by rw [List.cons_append, eachL, eachL_snoc l x, eachL, List.append_assoc]
def PFx (X : Nat → List RN) (j : Nat) : List RN := (List.range j).flatMap X
theorem PFx_succ (X : Nat → List RN) (j : Nat) : PFx X (j + 1) = PFx X j ++ X j := by
 unfold PFx; rw [List.range_succ, List.flatMap_append]; simp
theorem PFx_at (X : Nat → List RN) {j m : Nat} {y : RN} (h : (X j)[m]? = some y) : ∀ n, j < n → (PFx X n)[(PFx X j).length + m]? = some y := by
 intro n
 induction n with
 | zero => intro h; omega
 | succ n ih =>
  intro hj
  rw [PFx_succ]
  have hm : m < (X j).length := (List.getElem?_eq_some_iff.1 h).1
  by_cases hn : j = n
  · subst hn
    rw [List.getElem?_append_right (by omega), Nat.add_sub_cancel_left]; exact h
  · have h1 := ih (by omega)
    have := (List.getElem?_eq_some_iff.1 h1).1
    rw [List.getElem?_append_left this]; exact h1
theorem PFx_read {w : World} {B : Nat} {l : List Tree} {X : Nat → List RN} (h : ∀ i x, l[i]? = some x → ReadL w B (eachV x) (X i)) : ∀ j, j ≤ l.length → ReadL w B (eachL (l.take j)) (PFx X j) := by
 intro j
 induction j with
 | zero => intro _; exact .nil_
 | succ j ih =>
  intro hj
  obtain ⟨x, hx⟩ : ∃ x, l[j]? = some x := ⟨_, List.getElem?_eq_getElem (by omega)⟩
  rw [take_succ_at hx, eachL_snoc, PFx_succ]
  exact (ih (by omega)).app (h j x hx)
def EachC (w : World) (B : Nat) (r : RN) (rs : List RN) : Prop :=
 ∀ (lp : Nat) (J : Nat → World → Prop) (Jx : World → Prop) (M : Nat → Prop) (W : World) (s : Nat), (∀ k W1, J k W1 → ∀ b, M b → b < W1.heap.size) → Stays J → StaysX Jx →
  (∀ k W1, J k W1 → (∀ p : Addr, p.block < B → W1.cell? p = w.cell? p) ∧ B ≤ W1.heap.size) →
  (∀ k W1, J k W1 → s ≤ k → ∀ y, rs[k - s]? = some y → YieldAt Fence.wide 0 Tryz.prog lp #[y.val] W1 fun e W' => (e = .returned (.bool true) ∧ J (k + 1) W' ∧ Kept M W1 W') ∨ (e = .returned (.bool false) ∧ Jx W')) → J s W →
  Calls Tryz.prog 49 #[r.val, .func (.yield lp) #[] #[]] W fun e W' => (e = .returned (.bool true) ∧ J (s + rs.length) W') ∨ (e = .returned (.bool false) ∧ Jx W')
theorem aeach (w : World) (B : Nat) : ∀ (t : Tree) (r : RN), NodeM w B t r → costT t ≤ 3000 → ∃ rs, ReadL w B (eachV t) rs ∧ EachC w B r rs := by
 refine tree_ind (fun k f en a n l ih r hm hc => ?_)
 obtain ⟨A, cap, ks, rfl, hr, hl, hk⟩ := hm.open_
 have hlen := kids_few hc
 by_cases h0 : k = 0
 · subst h0
   refine ⟨[], by rw [show eachV (.mk 0 f en a n l) = [] by simp [eachV]]; exact .nil_, ?_⟩
   intro lp J Jx M W s hM hJ hJx hK hY h0
   unfold RN.val
   have HJ := Lib.hid (hJ _ _ (W.alloc (boxC ⟨0, f, en, a, toBA n, A, l.length, cap⟩)) h0 ((Below.refl _ _).alloc (Nat.le_refl _) _))
   clear hM hJx hK hY h0 hJ hm hr hk ih
   go_enter Tryz.func49, Tryz.ntmps49
   go_wp2_with fail
   go_ret
   exact .inl ⟨rfl, HJ.out⟩
 have b0 : (k == 0) = false := beq_eq_false_iff_ne.2 h0
 have hX : ∀ i, i < l.length → ∃ rs : List RN, ∀ x rx, l[i]? = some x → ks[i]? = some rx → ReadL w B (eachV x) rs ∧ EachC w B rx rs := fun i hi => by
  obtain ⟨x, hx⟩ : ∃ x, l[i]? = some x := ⟨_, List.getElem?_eq_getElem hi⟩
  obtain ⟨rx, hrx⟩ : ∃ rx, ks[i]? = some rx := ⟨_, List.getElem?_eq_getElem (by omega)⟩
  obtain ⟨rs, h1, h2⟩ := ih x (List.mem_of_getElem? hx) rx (hk i x rx hx hrx) (kid_cost hc (List.mem_of_getElem? hx))
  refine ⟨rs, fun x' rx' hx' hrx' => ?_⟩
  rw [hx] at hx'; rw [hrx] at hrx'
  cases hx'; cases hrx'
  exact ⟨h1, h2⟩
 obtain ⟨X, hX⟩ := Go.Deep.choose_lt hX
 have hread : ∀ i x, l[i]? = some x → ReadL w B (eachV x) (X i) := fun i x hx => by
  have hi := (List.getElem?_eq_some_iff.1 hx).1
  exact (hX i hi x _ hx (List.getElem?_eq_getElem (by omega))).1
 have hall := PFx_read hread l.length (Nat.le_refl _)
 rw [List.take_length] at hall
 refine ⟨⟨k, f, en, a, toBA n, A, l.length, cap⟩ :: PFx X l.length, by rw [eachV, if_neg h0]; exact .cons hm hall, ?_⟩
 intro lp J Jx M W s hM hJ hJx hK hY hs
 have HM := Lib.hid hM
 have HJ := Lib.hid hJ
 have HJX := Lib.hid hJx
 have HK := Lib.hid hK
 have HY := Lib.hid hY
 have HX := Lib.hid hX
 have HS := Lib.hid hs
 have HR := Lib.hid (And.intro hr (And.intro hl hk))
 have hj0 := hJ _ _ (W.alloc (.cells #[.int .i64 k, .int .i64 f, .int .i64 en, .int .i64 a, .string (toBA n), .slice A l.length cap] 24)) hs ((Below.refl _ _).alloc (Nat.le_refl _) _)
 obtain ⟨f0, t0, a0, bb0, hy0, hR0⟩ := hY s _ hj0 (Nat.le_refl _) ⟨k, f, en, a, toBA n, A, l.length, cap⟩ (by rw [Nat.sub_self]; rfl)
 have HR0 := Lib.hid hR0
 unfold RN.val at hy0
 clear hM hJ hJx hK hY hX hr hl hk hm ih hread hall hs hj0 hR0
 unfold RN.val
 refine (callsIn_wide (n := 0)).1 (callsIn_of_wp Tryz.func49 rfl trivial ?_)
 simp only [Tryz.ntmps49, List.size_toArray, List.length_cons, List.length_nil, Nat.reduceAdd, Nat.reduceSub, Array.replicate_succ, Array.replicate_zero, List.push_toArray, List.append_toArray, List.nil_append, List.cons_append]
 gi_wp2_with fail
 refine ⟨rfl, HR0.out.mono ?_⟩
 have hMx : ¬ M W.heap.size := fun h => by have := HM.out _ _ HS.out _ h; omega
 have heach : eachV (.mk k f en a n l) = .mk k f en a n l :: eachL l := by rw [eachV, if_neg h0]
 rintro e W3 (⟨rfl, hj3, hk3⟩ | ⟨rfl, hj3⟩)
 · have hbx : W3.heap[W.heap.size]? = some (boxC ⟨k, f, en, a, toBA n, A, l.length, cap⟩) := (hk3.2 W.heap.size (by rw [World.size_alloc]; omega) hMx).trans (heap_alloc_new _ _)
   obtain ⟨e0, e1, e2, e3, e4, e5, ez, el⟩ := ncells hbx
   have HJ3 := Lib.hid hj3
   clear hy0 hk3 hj3 hbx
   gi_wp2_with fail
   gi_loopw [17] (fun i wr => ∃ j : Nat, j ≤ l.length ∧ i = .int .i64 j ∧ J (s + 1 + (PFx X j).length) wr) (fun i _ => l.length - (intOf i).toNat)
   case atStart => exact ⟨0, Nat.zero_le _, rfl, HJ3.out⟩
   case round =>
    obtain ⟨j, hj, rfl, hJj⟩ := hrel
    have HJJ := Lib.hid hJj
    obtain ⟨q1, q2⟩ := HK.out _ _ hJj
    clear hJj
    by_cases hlt : j < l.length
    · obtain ⟨x, hx⟩ : ∃ x, l[j]? = some x := ⟨_, List.getElem?_eq_getElem hlt⟩
      obtain ⟨b, off, rx, rfl, hbb, hrx, hmx, c0, c1, c2, c3, c4, c5⟩ := kid_at (w := wr) (HR.out.1.keep fun p hp => q1 p hp) HR.out.2.1 (fun i y ry hy hry => (HR.out.2.2 i y ry hy hry).keep fun p hp => q1 p hp) hx
      have hb1 : b < wr.heap.size := by omega
      clear q1
      obtain ⟨_, hEC⟩ := HX.out j hlt x rx hx hrx
      have HE := Lib.hid (hEC lp J Jx M (wr.alloc (.cells #[.int .i64 rx.kind, .int .i64 rx.fr, .int .i64 rx.en, .int .i64 rx.at_, .string rx.name, .slice rx.A rx.n rx.cap] 24)) (s + 1 + (PFx X j).length)
       HM.out HJ.out HJX.out (fun k W1 h => HK.out k W1 h)
       (fun k W1 h hk y hy => HY.out k W1 h (by omega) y (by
        obtain ⟨m, rfl⟩ : ∃ m, k = s + 1 + (PFx X j).length + m := ⟨k - (s + 1 + (PFx X j).length), by omega⟩
        rw [show s + 1 + (PFx X j).length + m - s = (PFx X j).length + m + 1 by omega, List.getElem?_cons_succ]
        exact PFx_at X (by rwa [Nat.add_sub_cancel_left] at hy) _ hlt))
       (HJ.out _ _ _ HJJ.out ((Below.refl _ _).alloc (Nat.le_refl _) _)))
      unfold RN.val at HE
      clear hmx hrx hEC hx
      gi_wp2_with (refine ⟨trivial, rfl, ?_⟩; gi_at_call 49; refine (callsIn_wide.2 HE.out).mono ?_)
      rintro e W5 (⟨rfl, hj5⟩ | ⟨rfl, hj5⟩)
      · have HJ5 := Lib.hid hj5
        clear hj5
        gi_wp2_with fail
        go_roundw
        case rel => exact ⟨j + 1, by omega, by go_num, by rw [PFx_succ, List.length_append, ← Nat.add_assoc]; exact HJ5.out⟩
        case measure => simp only [intOf]; omega
      · have HJ5 := Lib.hid hj5
        clear hj5
        gi_wp2_with fail
        go_ret
        exact .inr ⟨rfl, HJ5.out⟩
    · have hjl : j = l.length := by omega
      clear q1
      have HJ6 := Lib.hid (show J (s + (PFx X l.length).length + 1) wr by rw [← hjl, show s + (PFx X j).length + 1 = s + 1 + (PFx X j).length by omega]; exact HJJ.out)
      clear hjl
      gi_wp2_with fail
      go_ret
      exact .inl ⟨rfl, HJ6.out⟩
 · have HJ3 := Lib.hid hj3
   clear hy0 hj3
   gi_wp2_with fail
   go_ret
   exact .inr ⟨rfl, HJ3.out⟩
section
attribute [local go_sem] Oper.semAt_some
def r0N : RN := ⟨0, 0, 0, 0, ⟨#[]⟩, none, 0, 0⟩
def elN (rs : List RN) (k : Nat) : RN := rs[k]?.getD r0N
theorem elN_at {rs : List RN} {k : Nat} {y : RN} (h : rs[k]? = some y) : elN rs k = y := by unfold elN; rw [h]; rfl
def KKe (w : World) (B : Nat) (bx : Nat) (r : RN) (W : World) : Prop := W.heap[bx]? = some (boxC r) ∧ (∀ p : Addr, p.block < B → W.cell? p = w.cell? p) ∧ B ≤ W.heap.size
theorem each_hands {w : World} {B : Nat} {r : RN} {rs : List RN} (hE : EachC w B r rs) (bx : Nat) : Hands2 Tryz.prog 48 #[.pointer (some ⟨bx, 0, none⟩)] rs.length (fun k => (elN rs k).val) (KKe w B bx r) := by
 intro lp J Jx M W hM hJ hJx hK hY h0
 obtain ⟨k1, k2, k3⟩ := (hK 0 W h0).1
 have HC := Lib.hid (hE lp J Jx M W 0 (fun k W1 h b hb => by have := hM b hb; have := (hK k W1 h).2; omega) hJ hJx (fun k W1 h => (hK k W1 h).1.2)
  (fun k W1 h _ y hy => by
   rw [Nat.sub_zero] at hy
   have := hY k W1 h (List.getElem?_eq_some_iff.1 hy).1
   have e := elN_at hy
   change YieldAt Fence.wide 0 Tryz.prog lp #[(elN rs k).val] W1 _ at this
   rw [e] at this
   exact this) h0)
 obtain ⟨e0, e1, e2, e3, e4, e5, ez, el⟩ := ncells k1
 unfold RN.val at HC
 clear hM hJ hJx hK hY h0 k1 k2 k3
 go_enter Tryz.func48, Tryz.ntmps48
 go_wp2_with (go_at_call 49; refine HC.out.mono ?_)
 rintro e W5 (⟨rfl, hj5⟩ | ⟨rfl, hj5⟩)
 · have HJ5 := Lib.hid hj5
   clear hj5
   go_wp2_with fail
   go_end0
   exact ⟨⟨_, rfl⟩, .inl (by have := HJ5.out; rwa [Nat.zero_add] at this)⟩
 · have HJ5 := Lib.hid hj5
   clear hj5
   go_wp2_with fail
   go_end0
   exact ⟨⟨_, rfl⟩, .inr HJ5.out⟩
theorem aEach (r : RN) (w : World) : Calls Tryz.prog 23 #[r.val] w fun e w' => e = .returned (.func (.func 48) #[] #[.pointer (some ⟨w.heap.size, 0, none⟩)]) ∧ w' = w.alloc (boxC r) := by
 unfold RN.val
 go_enter Tryz.func23, Tryz.ntmps23
 go_wp2_with fail
 go_ret
 exact ⟨rfl, rfl⟩
theorem load_bool {w : World} {b : Nat} {v : Value} (h : w.heap[b]? = some (.cells #[v] 4 (0, 0))) : (loadVar 4 ⟨b, 0, none⟩).run Tryz.prog w = .ok v w := by
 have c0 := (cell1 h).1
 have ha := Tryz.isAgg4 w
 simp only [loadVar, Sem.run_bind, ha, Result.andThen_ok]
 show (Sem.run Tryz.prog (load ⟨b, 0, none⟩) w) = _
 rw [run_load, c0]
theorem end_cell {fn : Func} {p : Tmp} (hres : fn.results = #[.cell p 4]) {tmps : Array Value} {b D : Nat} {v : Value} {w : World} {R : Ending → World → Prop} (hp : tmps.getD p undef = .pointer (some ⟨b, 0, none⟩))
  (hb : w.heap[b]? = some (.cells #[v] 4 (0, 0))) (hd : w.heap[D]? = some (.deferred (some []))) (hR : R (.returned v) (w.putObj D (.deferred none))) :
  bodyPostM Fence.wide 0 Tryz.prog fn R .ret { tmps := tmps, defers := [{ target := .collected D, args := #[] }] } w := by
 have hne : b ≠ D := fun e => by rw [e, hd] at hb; cases hb
 refine ⟨by simp, .inl ⟨_, _, rfl, run_takeDeferred hd, ?_⟩⟩
 refine ⟨v, ?_, hR⟩
 have h1 : (w.putObj D (.deferred none)).heap[b]? = some (.cells #[v] 4 (0, 0)) := (World.putObj_heap_other hne).trans hb
 have hp' : tmps[p]?.getD undef = .pointer (some ⟨b, 0, none⟩) := by rw [← hp]; simp
 simp only [results, hres]
 simp [Sem.run_bind, Result.andThen, hp', asAddr, load_bool h1]
end
theorem made_node {B0 b0 oB n c : Nat} {ro : RN} {A : Option Addr} {ms : List Tree} {rs : List RN} {w : World} {S : Nat → Prop} (h : Made B0 b0 oB ro A n c ms rs w) (nm : BL) (hn : ro.name = toBA nm) (hS : ∀ b, (b < B0 ∨ oB < b) → b < w.heap.size → S b) :
  NodeS w S (.mk ro.kind ro.fr ro.en ro.at_ nm ms) ⟨ro.kind, ro.fr, ro.en, ro.at_, ro.name, A, n, c⟩ := by
 have hl := h.len
 have hr := h.rlen
 subst hl
 rw [hn]
 obtain ⟨A2, c2, hv, hrow⟩ := h.own.row RN.len
 injection hv with e1 e2 e3
 subst e1
 by_cases h0 : 0 < rs.length
 · obtain ⟨b, off, hA, hb, hc⟩ := hrow h0
   refine .mk _ _ _ _ nm ms A c rs b off (fun _ => ⟨hA, hS b (.inr ?_) hb⟩) hr hc (fun i x r hx hrx => (h.sep.2 i x r hx hrx).more fun b hb => hS b hb.1 hb.2.1)
   have := h.own.lt b (by rw [hA]; rfl)
   omega
 · exact .mk _ _ _ _ nm ms A c rs 0 0 (fun h => absurd (by omega) h0) hr (fun i x hx => absurd (by have := (List.getElem?_eq_some_iff.1 hx).1; omega) h0) (fun i x r hx hrx => (h.sep.2 i x r hx hrx).more fun b hb => hS b hb.1 hb.2.1)
def dlt (a b : Int) : Nat := if 0 ≤ a ∧ b < 0 then 1 else 0
mutual
theorem wrap_cost : ∀ (t : Tree) (left : Int) (may : Bool), (wrapV t left may).2 < left ∧ costT (wrapV t left may).1 ≤ costT t + dlt left (wrapV t left may).2
 | .mk k f t a n l, left, may => by
  have h := wrapL_cost k l 0 (left - 1)
  unfold wrapV
  simp only
  generalize wrapL k 0 l (left - 1) = p at *
  obtain ⟨ms, lf⟩ := p
  simp only at h ⊢
  unfold dlt at h ⊢
  refine ⟨by omega, ?_⟩
  split
  · rename_i hc
    rw [costT, costL, costL, costT, costT]
    simp only [List.length_nil]
    split at h <;> split <;> omega
  · split
    · rename_i hc
      rw [costT, costL, costL, costT, costT]
      simp only [List.length_nil]
      split at h <;> split <;> omega
    · rw [costT, costT]
      split at h <;> split <;> omega
theorem wrapL_cost (k : Int) : ∀ (l : List Tree) (i : Nat) (left : Int), (wrapL k i l left).2 ≤ left ∧ costL (wrapL k i l left).1 ≤ costL l + dlt left (wrapL k i l left).2
 | [], i, left => by simp [wrapL, costL]
 | .mk k' f t a n l' :: l, i, left => by
  rw [costL]
  unfold wrapL
  split
  · have h := wrapL_cost k l (i + 1) left
    simp only [costL] at h ⊢; omega
  · have h1 := wrap_cost (.mk k' f t a n l') left (freeK k i)
    have h2 := wrapL_cost k l (i + 1) (wrapV (.mk k' f t a n l') left (freeK k i)).2
    generalize wrapV (.mk k' f t a n l') left (freeK k i) = p at *
    obtain ⟨t1, lf⟩ := p
    simp only at h1 h2 ⊢
    generalize wrapL k (i + 1) l lf = q at *
    obtain ⟨ms, l2⟩ := q
    simp only [costL] at h1 h2 ⊢
    unfold dlt at h1 h2 ⊢
    split at h1 <;> split at h2 <;> split <;> omega
end
theorem few_strict {t : Tree} (h : 0 < sizeV 3000 t) : costT t ≤ 2999 := by
 have := size_few 3000 t h; omega
theorem chk_ok {t : Tree} (h : checkV nameV tokT t = 0) : depthV t ≤ 64 ∧ fileV nameV tokT t = true := by
 unfold checkV at h
 split at h
 · cases h
 · rename_i hd
   split at h
   · rename_i hf; exact ⟨by omega, hf⟩
   · cases h
theorem chk_wrap {t : Tree} (left : Int) (h : fileV nameV tokT t = true) : checkV nameV tokT (wrapV t left false).1 = if 64 < depthV (wrapV t left false).1 then 3 else 0 := by
 unfold checkV
 rw [wrap_file nameV tokT t left h]
 split <;> rfl
theorem file_kind {t : Tree} (h : fileV nameV tokT t = true) : t.kind = 1 := by
 unfold fileV at h
 simp only [Bool.and_eq_true, decide_eq_true_eq] at h
 exact h.1.1
theorem each_pos {t : Tree} (h : t.kind = 1) : 0 < (eachV t).length := by
 obtain ⟨k, f, e, a, n, l⟩ := t
 have hk : k = 1 := h
 subst hk
 rw [eachV, if_neg (by decide)]
 simp
theorem aFree (k : Int) (i : Nat) (w : World) (hi : i ≤ 3000) : Calls Tryz.prog 50 #[.int .i64 k, .int .i64 i] w fun e w' => e = .returned (.bool (freeK k i)) ∧ w' = w := by
 by_cases h11 : k = 11
 · subst h11
   go_enter Tryz.func50, Tryz.ntmps50
   go_wp2_with fail
   go_ret
   exact ⟨ret_bool (by simp [freeK] <;> (rw [Bool.eq_iff_iff]; simp <;> omega)), rfl⟩
 by_cases h13 : k = 13
 · subst h13
   go_enter Tryz.func50, Tryz.ntmps50
   go_wp2_with fail
   go_ret
   exact ⟨ret_bool (by simp [freeK] <;> (rw [Bool.eq_iff_iff]; simp <;> omega)), rfl⟩
 by_cases h27 : k = 27
 · subst h27
   go_enter Tryz.func50, Tryz.ntmps50
   go_wp2_with fail
   go_ret
   exact ⟨ret_bool (by simp [freeK] <;> (rw [Bool.eq_iff_iff]; simp <;> omega)), rfl⟩
 by_cases h15 : k = 15
 · subst h15
   go_enter Tryz.func50, Tryz.ntmps50
   go_wp2_with fail
   go_ret
   exact ⟨ret_bool (by simp [freeK] <;> (rw [Bool.eq_iff_iff]; simp <;> omega)), rfl⟩
 by_cases h14 : k = 14
 · subst h14
   go_enter Tryz.func50, Tryz.ntmps50
   go_wp2_with fail
   go_ret
   exact ⟨ret_bool (by simp [freeK] <;> (rw [Bool.eq_iff_iff]; simp <;> omega)), rfl⟩
 by_cases h10 : k = 10
 · subst h10
   go_enter Tryz.func50, Tryz.ntmps50
   go_wp2_with fail
   go_ret
   exact ⟨ret_bool (by simp [freeK] <;> (rw [Bool.eq_iff_iff]; simp <;> omega)), rfl⟩
 by_cases h12 : k = 12
 · subst h12
   go_enter Tryz.func50, Tryz.ntmps50
   go_wp2_with fail
   go_ret
   exact ⟨ret_bool (by simp [freeK] <;> (rw [Bool.eq_iff_iff]; simp <;> omega)), rfl⟩
 by_cases h19 : k = 19
 · subst h19
   go_enter Tryz.func50, Tryz.ntmps50
   go_wp2_with fail
   go_ret
   exact ⟨ret_bool (by simp [freeK] <;> (rw [Bool.eq_iff_iff]; simp <;> omega)), rfl⟩
 by_cases h29 : k = 29
 · subst h29
   go_enter Tryz.func50, Tryz.ntmps50
   go_wp2_with fail
   go_ret
   exact ⟨ret_bool (by simp [freeK] <;> (rw [Bool.eq_iff_iff]; simp <;> omega)), rfl⟩
 by_cases h30 : k = 30
 · subst h30
   go_enter Tryz.func50, Tryz.ntmps50
   go_wp2_with fail
   go_ret
   exact ⟨ret_bool (by simp [freeK] <;> (rw [Bool.eq_iff_iff]; simp <;> omega)), rfl⟩
 by_cases h31 : k = 31
 · subst h31
   go_enter Tryz.func50, Tryz.ntmps50
   go_wp2_with fail
   go_ret
   exact ⟨ret_bool (by simp [freeK] <;> (rw [Bool.eq_iff_iff]; simp <;> omega)), rfl⟩
 by_cases h32 : k = 32
 · subst h32
   go_enter Tryz.func50, Tryz.ntmps50
   go_wp2_with fail
   go_ret
   exact ⟨ret_bool (by simp [freeK] <;> (rw [Bool.eq_iff_iff]; simp <;> omega)), rfl⟩
 by_cases h33 : k = 33
 · subst h33
   go_enter Tryz.func50, Tryz.ntmps50
   go_wp2_with fail
   go_ret
   exact ⟨ret_bool (by simp [freeK] <;> (rw [Bool.eq_iff_iff]; simp <;> omega)), rfl⟩
 have b11 : (k == 11) = false := beq_eq_false_iff_ne.2 h11
 have b13 : (k == 13) = false := beq_eq_false_iff_ne.2 h13
 have b27 : (k == 27) = false := beq_eq_false_iff_ne.2 h27
 have b15 : (k == 15) = false := beq_eq_false_iff_ne.2 h15
 have b14 : (k == 14) = false := beq_eq_false_iff_ne.2 h14
 have b10 : (k == 10) = false := beq_eq_false_iff_ne.2 h10
 have b12 : (k == 12) = false := beq_eq_false_iff_ne.2 h12
 have b19 : (k == 19) = false := beq_eq_false_iff_ne.2 h19
 have b29 : (k == 29) = false := beq_eq_false_iff_ne.2 h29
 have b30 : (k == 30) = false := beq_eq_false_iff_ne.2 h30
 have b31 : (k == 31) = false := beq_eq_false_iff_ne.2 h31
 have b32 : (k == 32) = false := beq_eq_false_iff_ne.2 h32
 have b33 : (k == 33) = false := beq_eq_false_iff_ne.2 h33
 have HV := Lib.hid (show freeK k i = false by simp [freeK, h11, h13, h27, h15, h14, h10, h12, h19, h29, h30, h31, h32, h33])
 go_enter Tryz.func50, Tryz.ntmps50
 go_wp2_with fail
 go_ret
 exact ⟨ret_bool HV.out.symm, rfl⟩
theorem wrapL_snoc (k : Int) : ∀ (l : List Tree) (x : Tree) (i : Nat) (left : Int), wrapL k i (l ++ [x]) left =
  ((wrapL k i l left).1 ++ [putK k (i + l.length) x (wrapL k i l left).2], if x.kind = 0 then (wrapL k i l left).2 else (wrapV x (wrapL k i l left).2 (freeK k (i + l.length))).2)
 | [], .mk k' f t a n l', i, left => by
  simp only [List.nil_append, wrapL, putK, Tree.kind, List.length_nil, Nat.add_zero]
  by_cases h : k' = 0 <;> simp [h]
 | .mk k' f t a n l' :: l, x, i, left => by
  rw [List.cons_append]
  unfold wrapL
  split
  · rw [wrapL_snoc k l x (i + 1) left]
    simp only [List.length_cons, List.cons_append, Nat.add_assoc, Nat.add_comm 1]
  · rw [wrapL_snoc k l x (i + 1) _]
    simp only [List.length_cons, List.cons_append, Nat.add_assoc, Nat.add_comm 1]
theorem costL_take_at : ∀ {l : List Tree} {j : Nat} {x : Tree}, l[j]? = some x → costT x + costL (l.take j) ≤ costL l
 | [], j, x, h => by simp at h
 | y :: l, 0, x, h => by
  cases h
  rw [List.take_zero, costL, costL]; omega
 | y :: l, j + 1, x, h => by
  have := costL_take_at (l := l) (j := j) (x := x) (by simpa using h)
  rw [List.take_succ_cons, costL, costL]; omega
mutual
theorem wrap_lo : ∀ (t : Tree) (left : Int) (may : Bool), left - costT t ≤ (wrapV t left may).2 ∧ (wrapV t left may).2 ≤ left
 | .mk k f t a n l, left, may => by
  have h := wrapL_lo k l 0 (left - 1)
  unfold wrapV
  simp only
  rw [costT]
  omega
theorem wrapL_lo (k : Int) : ∀ (l : List Tree) (i : Nat) (left : Int), left - costL l ≤ (wrapL k i l left).2 ∧ (wrapL k i l left).2 ≤ left
 | [], i, left => by simp [wrapL, costL]
 | .mk k' f t a n l' :: l, i, left => by
  rw [costL]
  unfold wrapL
  split
  · have h := wrapL_lo k l (i + 1) left
    simp only; omega
  · have h1 := wrap_lo (.mk k' f t a n l') left (freeK k i)
    have h2 := wrapL_lo k l (i + 1) (wrapV (.mk k' f t a n l') left (freeK k i)).2
    simp only; omega
end
theorem set_size (W : World) (p : Addr) (v : Value) : (W.setCell p v).heap.size = W.heap.size := by simp [World.setCell]
def WrapOut (t : Tree) (left : Int) (may : Bool) (B lb : Nat) (w : World) (e : Ending) (w' : World) : Prop :=
 (∃ s, e = .returned (RN.val s) ∧ NodeS w' (fun b => b < B ∨ (w.heap.size ≤ b ∧ b < w'.heap.size)) (wrapV t left may).1 s) ∧ w'.heap[lb]? = some (.cells #[.int .i64 (wrapV t left may).2] 3 (0, 0)) ∧ Below lb w w' ∧ Kept (fun b => b = lb) w w'
def sixSet (W : World) (b : Nat) (s : RN) : World := (((((W.setCell ⟨b, 0, none⟩ (.int .i64 s.kind)).setCell ⟨b, 1, none⟩ (.int .i64 s.fr)).setCell ⟨b, 2, none⟩ (.int .i64 s.en)).setCell ⟨b, 3, none⟩ (.int .i64 s.at_)).setCell ⟨b, 4, none⟩ (.string s.name)).setCell ⟨b, 5, none⟩ (.slice s.A s.n s.cap)
theorem wrap_end {w W : World} {B lb : Nat} {t : Tree} {left : Int} {may : Bool} {s : RN} (hT : NodeS W (fun b => b < B ∨ (w.heap.size + 1 + 1 < b ∧ b < W.heap.size)) (wrapV t left may).1 s) (hl : W.heap[lb]? = some (.cells #[.int .i64 (wrapV t left may).2] 3 (0, 0)))
  (hb : Below lb w W) (hk : Kept (fun b => b = lb) w W) (hB : B ≤ lb) (hlb : lb < w.heap.size) (hsz : w.heap.size + 1 + 1 < W.heap.size) : WrapOut t left may B lb w (.returned s.val) (sixSet W (w.heap.size + 1) s) := by
 have hs : (sixSet W (w.heap.size + 1) s).heap.size = W.heap.size := by unfold sixSet; rw [set_size, set_size, set_size, set_size, set_size, set_size]
 refine ⟨⟨s, rfl, hT.keep (fun p hp => World.cell?_of_block (six_other (by omega))) (fun b hb => by rw [hs]; omega)⟩, (six_other (by omega)).trans hl, six_below hb (by omega), ⟨by rw [hs]; omega, fun b hb hm => (six_other (by omega)).trans (hk.2 b hb hm)⟩⟩
theorem one_node {W : World} {g : Nat} {k : Int} {t : Tree} {r : RN} {S S' : Nat → Prop} (hg : W.heap[g]? = some (.cells #[.int .i64 r.kind, .int .i64 r.fr, .int .i64 r.en, .int .i64 r.at_, .string r.name, .slice r.A r.n r.cap] 24 (0, 0))) (h : NodeS W S t r) (hS : ∀ b, S b → S' b) (hgS : S' g) :
  NodeS W S' (.mk k 0 0 0 [] [t]) ⟨k, 0, 0, 0, ⟨#[]⟩, some ⟨g, 0, none⟩, 1, 1⟩ := by
 refine .mk k 0 0 0 [] [t] (some ⟨g, 0, none⟩) 1 [r] g 0 (fun _ => ⟨rfl, hgS⟩) rfl (fun i x hx j v hv => ?_) (fun i x s hx hs => ?_)
 · cases i with
   | zero =>
    cases hx
    rw [cell_of_row _ _ _ _ _ _ hg, ← hv]
    rw [← Array.getElem?_toList]
    simp [RN.cells]
   | succ i => simp at hx
 · cases i with
   | zero => cases hx; cases hs; exact h.more hS
   | succ i => simp at hx
theorem mParen2 (r : RN) (w : World) : Calls Tryz.prog 41 #[r.val] w fun e w' => e = .returned (⟨33, 0, 0, 0, ⟨#[]⟩, some ⟨w.heap.size + 1 + 1, 0, none⟩, 1, 1⟩ : RN).val ∧ w'.heap[w.heap.size + 1 + 1]? = some (.cells #[.int .i64 r.kind, .int .i64 r.fr, .int .i64 r.en, .int .i64 r.at_, .string r.name, .slice r.A r.n r.cap] 24 (0, 0)) ∧ Below w.heap.size w w' := by
 unfold RN.val
 go_enter Tryz.func41, Tryz.ntmps41
 go_wp2_with fail
 refine bodyPost_ret (v := (⟨33, 0, 0, 0, ⟨#[]⟩, some ⟨w.heap.size + 1 + 1, 0, none⟩, 1, 1⟩ : RN).val) (by unfold RN.val; simp [results, Tryz.f41, go_sem]; done) rfl ⟨rfl, new_at (by simp), ?_⟩
 all_goals repeat (first | exact Below.refl _ _ | apply bel_alloc)
theorem aWrapped : ∀ (t : Tree) (r : RN) (w : World) (B lb : Nat) (left : Int) (may : Bool), NodeM w B t r → B ≤ lb → w.heap[lb]? = some (.cells #[.int .i64 left] 3 (0, 0)) → costT t ≤ 3000 → -1000000 + costT t ≤ left → left ≤ 1000000 →
  Calls Tryz.prog 24 #[r.val, .pointer (some ⟨lb, 0, none⟩), .bool may] w (WrapOut t left may B lb w) := by
 refine tree_ind (fun k f en a n l ih r w B lb left may hm hB hlb hc hlo hhi => ?_)
 obtain ⟨A, cap, rfl, hk⟩ := hm.open2
 obtain ⟨i24, hi24, hz0, hz1, hz2⟩ := info_cut info24
 have hlen := kids_few hc
 have hlbs := (Array.getElem?_eq_some_iff.1 hlb).1
 obtain ⟨q0, qz, ql⟩ := cell1 hlb
 have HLB := Lib.hid hlb
 have HK := Lib.hid hk
 have HI := Lib.hid (fun x hx rx W B lb left may h1 h2 h3 => ih x hx rx W B lb left may h1 h2 h3 (kid_cost hc hx))
 have HBB := Lib.hid hB
 have HC := Lib.hid (show costL l + n.length + 1 ≤ 3000 from hc)
 have hlo2 : -1000000 + ((costL l + n.length + 1 : Nat) : Int) ≤ left := hlo
 have hwl : IntKind.i64.wrap (left - 1) = left - 1 := by rw [IntKind.wrap_i64]; omega
 have HHI := Lib.hid hhi
 clear hm ih hc hk hlb hlo
 obtain ⟨is0, his⟩ : ∃ b, (left == 0) = b := ⟨_, rfl⟩
 have HIS := Lib.hid his
 unfold RN.val
 go_enter Tryz.func24, Tryz.ntmps24
 go_wp2_with fail
 go_loopw [9] (fun i wr => ∃ (j : Nat) (A' : Option Addr) (c' : Nat) (ms : List Tree) (rs : List RN) (lf : Int), j ≤ l.length ∧ i = .int .i64 j ∧ wrapL k 0 (l.take j) (left - 1) = (ms, lf) ∧ wr.heap[w.heap.size]? = some (boxC ⟨k, f, en, a, toBA n, A, l.length, cap⟩) ∧ wr.heap[w.heap.size + 1]? = some (boxC ⟨0, 0, 0, 0, ⟨#[]⟩, none, 0, 0⟩) ∧ wr.heap[lb]? = some (.cells #[.int .i64 lf] 3 (0, 0)) ∧ Made B w.heap.size (w.heap.size + 1 + 1) ⟨k, f, en, a, toBA n, none, 0, 0⟩ A' j c' ms rs wr ∧ Below lb w wr ∧ Kept (fun b => b = lb) w wr) (fun i _ => l.length - (intOf i).toNat)
 case atStart =>
  refine ⟨0, none, 0, [], [], left - 1, Nat.zero_le _, rfl, by rw [List.take_zero]; rfl, nb_alloc (nb_alloc (new_at (by simp))), nb_alloc (new_at (by simp)), nb_alloc (nb_alloc (nb_alloc (set_heap HLB.out))), ⟨new_at (by simp), Own.nil_, .nil_, rfl⟩, ?_, (Kept.setCell (fun b => b = lb) _ ⟨lb, 0, none⟩ _ rfl).trans (Kept.of_below (zA (zA (zA (zR _)))))⟩
  exact ((((Below.refl lb w).setCell (p := ⟨lb, 0, none⟩) (Nat.le_refl _) _).alloc (by simp; omega) _).alloc (by simp; omega) _).alloc (by simp; omega) _
 case round =>
  obtain ⟨j, A', c', ms, rs, lf, hj, rfl, hwrap, hb0, hb1, hlbw, hmade, hb, hkept⟩ := hrel
  have HB1 := Lib.hid hb
  have HMD := Lib.hid hmade
  have HH := Lib.hid (And.intro hb0 (And.intro hb1 hlbw))
  have HWR := Lib.hid hwrap
  have HRL := Lib.hid hmade.rlen
  have HKE := Lib.hid hkept
  obtain ⟨e0, e1, e2, e3, e4, e5, ez, el⟩ := ncells hb0
  obtain ⟨o0, o1, o2, o3, o4, o5, oz, ol⟩ := ncells hmade.box
  have hsz := hb.size
  have hszk := hkept.1
  clear hb hb0 hb1 hmade hlbw hwrap hkept q0 qz ql
  by_cases hlt : j < l.length
  · obtain ⟨x, hx⟩ : ∃ x, l[j]? = some x := ⟨_, List.getElem?_eq_getElem hlt⟩
    obtain ⟨b, off, rx, rfl, hbb, hmx, c0, c1, c2, c3, c4, c5⟩ := (HK.out.later HB1.out HBB.out).at hx
    have hb1 : b < wr.heap.size := by have := HBB.out; omega
    have HSN := Lib.hid (wrapL_snoc k (l.take j) x 0 (left - 1))
    have HTK := Lib.hid (take_succ_at hx)
    have hxk := hmx.kind
    by_cases h0 : x.kind = 0
    · have hk0 : rx.kind = 0 := hxk.trans h0
      have hd0 : (rx.kind == 0) = true := beq_iff_eq.2 hk0
      have hd1 : (rx.kind != 0) = false := by simp [hk0]
      have hd2 : decide (rx.kind = 0) = true := decide_eq_true hk0
      have HMX := Lib.hid (hmx.toS.more (S' := fun b => b < B ∨ (wr.heap.size ≤ b ∧ b < wr.heap.size)) (fun b h => .inl h))
      have HWN := Lib.hid (show wrapL k 0 (l.take (j + 1)) (left - 1) = (ms ++ [x], lf) by
       rw [HTK.out, HSN.out, HWR.out, if_pos h0]; unfold putK; rw [if_pos h0])
      clear hmx hx hxk hk0 h0
      go_wp2_with (first | (at_builtin; go_must (refine wpList_append_rec (cs := RN.cells) rfl _ _ 22 rfl 24 i24 _ 72 Tryz.underlying22 hi24 hz0 hz1 hz2 rfl (by decide) RN.len RN.one (wr.alloc (boxC rx)) (w.heap.size + 1 + 1 + 1) (wr.heap.size + 1) (.slice A' j c') rs rx _ rfl (by rfl) (by rfl) (by simp) (Own.alloc HMD.out.own _) (by rw [HRL.out]; unfold maxLen; omega) (by rw [HRL.out]; omega) (by rw [World.size_alloc]; omega) ?_); intro g cap2 w5 ho5 hg5 hat5 hlt5; rw [show rs.length + 1 = j + 1 from congrArg (· + 1) HRL.out] at ho5 ⊢; obtain ⟨q0, q1, q2, q3, q4, q5, qz, ql⟩ := ncells ((hg5.block (w.heap.size + 1 + 1) (by rw [World.size_alloc]; omega) (own_ne HMD.out.own (by omega))).trans (nb_alloc HMD.out.box)); have HF := Lib.hid (And.intro ho5 (And.intro hg5 (And.intro hat5 hlt5))); clear ho5 hg5 hat5 hlt5))
      go_roundw
      case rel =>
       have hBB := HBB.out
       have hol := (Array.getElem?_eq_some_iff.1 HMD.out.box).1
       have hgl : w.heap.size + 1 + 1 < g := by
        have := HF.out.1.lt g rfl
        omega
       have hs5 := HF.out.2.1.size
       rw [World.size_alloc] at hs5
       have hk2 : ∀ b, b < w.heap.size + 1 + 1 → (w5.setCell ⟨w.heap.size + 1 + 1, 5, none⟩ (.slice (some ⟨g, 0, none⟩) (j + 1) cap2)).heap[b]? = wr.heap[b]? := fun b h1 =>
        (set_other (by omega)).trans ((HF.out.2.1.block b (by rw [World.size_alloc]; omega) (own_ne HMD.out.own (by omega))).trans (Go.heap_alloc_old wr _ (by omega)))
       refine ⟨j + 1, some ⟨g, 0, none⟩, cap2, ms ++ [x], rs ++ [rx], lf, by omega, by go_num, HWN.out, (hk2 _ (by omega)).trans HH.out.1, (hk2 _ (by omega)).trans HH.out.2.1, (hk2 _ (by omega)).trans HH.out.2.2,
        HMD.out.next (M := fun b => b = lb) (lo := wr.heap.size) (fun b h => by subst h; omega) (Kept.refl _ _) (Kept.of_below (zA (zR _))) HF.out.2.1 (by omega) (by omega) ?_ hgl HF.out.1 HMX.out, ?_, ⟨by rw [set_size]; omega, fun b hb hm => (hk2 b (by omega)).trans (HKE.out.2 b hb hm)⟩⟩
       · rcases HF.out.2.2.1 with h | h
         · exact .inl h
         · exact .inr (by rw [h]; omega)
       · exact Below.setCell (p := ⟨w.heap.size + 1 + 1, 5, none⟩) (below_grown (l := rs) (cs := RN.cells) (sz := 6) (e := 24) (B := lb) (HB1.out.alloc (by omega) _) (OwnN.mono (Own.alloc HMD.out.own _) (by omega)) (by rw [World.size_alloc]; omega) HF.out.2.1) (by show lb ≤ w.heap.size + 1 + 1; omega) _
      case measure => simp only [intOf]; omega
    · have hk1 : ¬ rx.kind = 0 := fun e => h0 (hxk.symm.trans e)
      have hd0 : (rx.kind == 0) = false := beq_eq_false_iff_ne.2 hk1
      have hd1 : (rx.kind != 0) = true := by simp [hk1]
      have hcx : costT x + costL (l.take j) ≤ costL l := costL_take_at hx
      have hlw := wrapL_lo k (l.take j) 0 (left - 1)
      rw [HWR.out] at hlw
      have hCC := HC.out
      have hHI := HHI.out
      have HCL := Lib.hid (HI.out x (List.mem_of_getElem? hx) rx (wr.alloc (boxC rx)).drew B lb lf (freeK k j) ((hmx.alloc (by omega) (boxC rx)).keep fun _ _ => rfl) HBB.out (nb_alloc HH.out.2.2) (by simp only at hlw; omega) (by simp only at hlw; omega))
      have HWN := Lib.hid (show wrapL k 0 (l.take (j + 1)) (left - 1) = (ms ++ [(wrapV x lf (freeK k j)).1], (wrapV x lf (freeK k j)).2) by
       rw [HTK.out, HSN.out, HWR.out, if_neg h0]
       have hle : (l.take j).length = j := by rw [List.length_take]; omega
       unfold putK; rw [if_neg h0, hle, Nat.zero_add])
      have HFR := Lib.hid (fun W => aFree k j W (by omega))
      generalize freeK k j = fr at *
      unfold RN.val at HCL
      clear hmx hx hxk h0 hcx hlw hCC hHI
      go_wp2_with fail
      obtain ⟨W1, hW1⟩ : ∃ W1, wr.alloc (boxC rx) = W1 := ⟨_, rfl⟩
      rw [hW1] at HCL
      have HG := Lib.hid (show W1.heap[wr.heap.size]? = some (boxC rx) by rw [← hW1]; exact heap_alloc_new _ _)
      have hW1s : W1.heap.size = wr.heap.size + 1 := by rw [← hW1]; exact World.size_alloc _ _
      have HB01 := Lib.hid (show Below wr.heap.size wr W1 by rw [← hW1]; exact zA (zR _))
      unfold boxC at hW1
      rw [hW1]
      clear e0 e1 e2 e3 e4 e5 ez el
      obtain ⟨e0, e1, e2, e3, e4, e5, ez, el⟩ := ncells (nb_below HH.out.1 HB01.out)
      obtain ⟨t0, t1, t2, t3, t4, t5, tz, tl⟩ := ncells HG.out
      have hS1 : W1.drew.cell? ⟨w.heap.size, 0, none⟩ = some (.int .i64 k) := e0
      refine wp_region_held_drew (S := fun w' => w'.cell? ⟨w.heap.size, 0, none⟩ = some (.int .i64 k)) (by kernel_rfl) hS1 (fun hHeld => ?_)
      refine zTk 1 (h := ?_)
      refine zTk 2 (h := ?_)
      refine zTk 3 (h := ?_)
      refine zTk 4 (h := ?_)
      refine wpAnyH_ready (rs := [0, 5]) (by kernel_rfl) (by simp) ?_
      refine AllReadyH.cons (by rfl) (fun KK hKK => ?_) (AllReadyH.cons (by rfl) (fun KK hKK => ?_) AllReadyH.nil)
      · go_simp
        refine hKK.out _ _ hHeld (fun hHeld2 => ?_); clear hKK KK
        (try simp only [Act.put, zSa, zSb, zSc])
        refine zRd 5 (h := fun KK hKK => ?_)
        go_simp
        (refine (HFR.out _).mono ?_; rintro e x1 ⟨rfl, rfl⟩)
        (try go_wp2_with fail)
        refine hKK.out _ _ hHeld (fun hHeld3 => ?_); clear hKK KK
        (try simp only [Act.put, zSa, zSb, zSc])
        refine zRd 6 (h := fun KK hKK => ?_)
        go_simp
        (refine HCL.out.mono ?_; rintro e w2 ⟨⟨s, rfl, hns⟩, hl2, hbl2, hk2⟩; dsimp only [RN.val])
        (try go_wp2_with fail)
        have hBB := HBB.out
        have hg2 := (hk2.2 wr.heap.size (by show wr.heap.size < W1.heap.size; omega) (by omega)).trans HG.out
        obtain ⟨y0, y1, y2, y3, y4, y5, yz, yl⟩ := ncells hg2
        have hS2 : w2.cell? ⟨w.heap.size, 0, none⟩ = some (.int .i64 k) := (World.cell?_of_block (hk2.2 w.heap.size (by show w.heap.size < W1.heap.size; omega) (by omega))).trans e0
        have hzz2 : W1.heap.size ≤ w2.heap.size := hk2.1
        have HK3 := Lib.hid (⟨by rw [set_size, set_size, set_size, set_size, set_size, set_size]; omega, fun b hb hm => (six_other (by omega)).trans ((hk2.2 b (by show b < W1.heap.size; omega) (by omega)).trans (HB01.out.block b hb))⟩ : Kept (fun b => b = lb ∨ b = wr.heap.size) wr ((((((w2.setCell ⟨wr.heap.size, 0, none⟩ (.int .i64 s.kind)).setCell ⟨wr.heap.size, 1, none⟩ (.int .i64 s.fr)).setCell ⟨wr.heap.size, 2, none⟩ (.int .i64 s.en)).setCell ⟨wr.heap.size, 3, none⟩ (.int .i64 s.at_)).setCell ⟨wr.heap.size, 4, none⟩ (.string s.name)).setCell ⟨wr.heap.size, 5, none⟩ (.slice s.A s.n s.cap)))
        have HL3 := Lib.hid ((six_other (by omega)).trans hl2 : ((((((w2.setCell ⟨wr.heap.size, 0, none⟩ (.int .i64 s.kind)).setCell ⟨wr.heap.size, 1, none⟩ (.int .i64 s.fr)).setCell ⟨wr.heap.size, 2, none⟩ (.int .i64 s.en)).setCell ⟨wr.heap.size, 3, none⟩ (.int .i64 s.at_)).setCell ⟨wr.heap.size, 4, none⟩ (.string s.name)).setCell ⟨wr.heap.size, 5, none⟩ (.slice s.A s.n s.cap)).heap[lb]? = some (.cells #[.int .i64 (wrapV x lf fr).2] 3 (0, 0)))
        have HB3 := Lib.hid (six_below ((HB1.out.trans (HB01.out.mono (by omega))).drew.trans hbl2) (by omega) : Below lb w ((((((w2.setCell ⟨wr.heap.size, 0, none⟩ (.int .i64 s.kind)).setCell ⟨wr.heap.size, 1, none⟩ (.int .i64 s.fr)).setCell ⟨wr.heap.size, 2, none⟩ (.int .i64 s.en)).setCell ⟨wr.heap.size, 3, none⟩ (.int .i64 s.at_)).setCell ⟨wr.heap.size, 4, none⟩ (.string s.name)).setCell ⟨wr.heap.size, 5, none⟩ (.slice s.A s.n s.cap)))
        have HN3 := Lib.hid (hns.keep (S' := fun b => b < B ∨ (wr.heap.size + 1 ≤ b ∧ b < ((((((w2.setCell ⟨wr.heap.size, 0, none⟩ (.int .i64 s.kind)).setCell ⟨wr.heap.size, 1, none⟩ (.int .i64 s.fr)).setCell ⟨wr.heap.size, 2, none⟩ (.int .i64 s.en)).setCell ⟨wr.heap.size, 3, none⟩ (.int .i64 s.at_)).setCell ⟨wr.heap.size, 4, none⟩ (.string s.name)).setCell ⟨wr.heap.size, 5, none⟩ (.slice s.A s.n s.cap)).heap.size)) (fun p hp => World.cell?_of_block (six_other (by have hp2 : p.block < B ∨ (W1.heap.size ≤ p.block ∧ p.block < w2.heap.size) := hp; omega))) (fun b hb => by have hb2 : b < B ∨ (W1.heap.size ≤ b ∧ b < w2.heap.size) := hb; rw [set_size, set_size, set_size, set_size, set_size, set_size]; omega) : NodeS ((((((w2.setCell ⟨wr.heap.size, 0, none⟩ (.int .i64 s.kind)).setCell ⟨wr.heap.size, 1, none⟩ (.int .i64 s.fr)).setCell ⟨wr.heap.size, 2, none⟩ (.int .i64 s.en)).setCell ⟨wr.heap.size, 3, none⟩ (.int .i64 s.at_)).setCell ⟨wr.heap.size, 4, none⟩ (.string s.name)).setCell ⟨wr.heap.size, 5, none⟩ (.slice s.A s.n s.cap)) _ (wrapV x lf fr).1 s)
        have HG3 := Lib.hid (six_set hg2 : ((((((w2.setCell ⟨wr.heap.size, 0, none⟩ (.int .i64 s.kind)).setCell ⟨wr.heap.size, 1, none⟩ (.int .i64 s.fr)).setCell ⟨wr.heap.size, 2, none⟩ (.int .i64 s.en)).setCell ⟨wr.heap.size, 3, none⟩ (.int .i64 s.at_)).setCell ⟨wr.heap.size, 4, none⟩ (.string s.name)).setCell ⟨wr.heap.size, 5, none⟩ (.slice s.A s.n s.cap)).heap[wr.heap.size]? = some (boxC s))
        refine hKK.out _ _ hS2 (fun hHeld4 => ?_); clear hKK KK
        (try simp only [Act.put, zSa, zSb, zSc])
        refine zRd 7 (h := fun KK hKK => ?_)
        go_simp
        refine hKK.out _ _ ((World.cell?_of_block (six_other (by show w.heap.size ≠ wr.heap.size; omega))).trans hS2) (fun hHeld5 => ?_); clear hKK KK
        refine wpAnyH_done (by kernel_rfl) ?_ _
        clear hHeld hHeld2 hHeld3 hHeld4 hHeld5 hS1 hS2 y0 y1 y2 y3 y4 y5 yz yl hl2 hbl2 hns hg2 e0 e1 e2 e3 e4 e5 ez el t0 t1 t2 t3 t4 t5 tz tl c0 c1 c2 c3 c4 c5 o0 o1 o2 o3 o4 o5 oz ol
        generalize (((((w2.setCell ⟨wr.heap.size, 0, none⟩ (.int .i64 s.kind)).setCell ⟨wr.heap.size, 1, none⟩ (.int .i64 s.fr)).setCell ⟨wr.heap.size, 2, none⟩ (.int .i64 s.en)).setCell ⟨wr.heap.size, 3, none⟩ (.int .i64 s.at_)).setCell ⟨wr.heap.size, 4, none⟩ (.string s.name)).setCell ⟨wr.heap.size, 5, none⟩ (.slice s.A s.n s.cap) = W3 at *
        obtain ⟨y0, y1, y2, y3, y4, y5, yz, yl⟩ := ncells HG3.out
        have hzz3 := HK3.out.1
        have hol2 := (Array.getElem?_eq_some_iff.1 HMD.out.box).1
        have HOB := Lib.hid ((HK3.out.2 (w.heap.size + 1 + 1) (by omega) (by omega)).trans HMD.out.box)
        obtain ⟨o0, o1, o2, o3, o4, o5, oz, ol⟩ := ncells HOB.out
        have HOW := Lib.hid (own_keepN HMD.out.own (fun q hq => HK3.out.2 q (HMD.out.own.lt q hq).2 (by have := (HMD.out.own.lt q hq).1; have := (HMD.out.own.lt q hq).2; omega)))
        clear hk2
        go_wp2_with (first | (at_builtin; go_must (refine wpList_append_rec (cs := RN.cells) rfl _ _ 22 rfl 24 i24 _ 72 Tryz.underlying22 hi24 hz0 hz1 hz2 rfl (by decide) RN.len RN.one W3 (w.heap.size + 1 + 1 + 1) W3.heap.size (.slice A' j c') rs s _ rfl (by rfl) (by rfl) rfl HOW.out (by rw [HRL.out]; unfold maxLen; omega) (by rw [HRL.out]; omega) (by omega) ?_); intro g cap2 w5 ho5 hg5 hat5 hlt5; rw [show rs.length + 1 = j + 1 from congrArg (· + 1) HRL.out] at ho5 ⊢; obtain ⟨q0, q1, q2, q3, q4, q5, qz, ql⟩ := ncells ((hg5.block (w.heap.size + 1 + 1) (by omega) (own_ne HMD.out.own (by omega))).trans HOB.out); have HF := Lib.hid (And.intro ho5 (And.intro hg5 (And.intro hat5 hlt5))); clear ho5 hg5 hat5 hlt5))
        go_roundw
        case rel =>
         have hBB := HBB.out
         have hol := (Array.getElem?_eq_some_iff.1 HMD.out.box).1
         have hgl : w.heap.size + 1 + 1 < g := by
          have := HF.out.1.lt g rfl
          omega
         have hs5 := HF.out.2.1.size
         have hk3 : ∀ b, b < w.heap.size + 1 + 1 → b ≠ lb → (w5.setCell ⟨w.heap.size + 1 + 1, 5, none⟩ (.slice (some ⟨g, 0, none⟩) (j + 1) cap2)).heap[b]? = wr.heap[b]? := fun b h1 h2 =>
          (set_other (by omega)).trans ((HF.out.2.1.block b (by omega) (own_ne HMD.out.own (by omega))).trans (HK3.out.2 b (by omega) (by omega)))
         have hl3 : (w5.setCell ⟨w.heap.size + 1 + 1, 5, none⟩ (.slice (some ⟨g, 0, none⟩) (j + 1) cap2)).heap[lb]? = some (.cells #[.int .i64 (wrapV x lf fr).2] 3 (0, 0)) :=
          (set_other (by omega)).trans ((HF.out.2.1.block lb (by omega) (own_ne HMD.out.own (by omega))).trans HL3.out)
         refine ⟨j + 1, some ⟨g, 0, none⟩, cap2, ms ++ [(wrapV x lf fr).1], rs ++ [s], (wrapV x lf fr).2, by omega, by go_num, HWN.out, (hk3 _ (by omega) (by omega)).trans HH.out.1, (hk3 _ (by omega) (by omega)).trans HH.out.2.1, hl3,
          HMD.out.next (M := fun b => b = lb ∨ b = wr.heap.size) (lo := wr.heap.size + 1) (fun b h => by omega) HK3.out (Kept.refl _ _) HF.out.2.1 (by omega) (by omega) ?_ hgl HF.out.1 HN3.out, ?_, ⟨by rw [set_size]; omega, fun b hb hm => (hk3 b (by omega) hm).trans (HKE.out.2 b hb hm)⟩⟩
         · rcases HF.out.2.2.1 with h | h
           · exact .inl h
           · exact .inr (by rw [h]; omega)
         · exact Below.setCell (p := ⟨w.heap.size + 1 + 1, 5, none⟩) (below_grown (l := rs) (cs := RN.cells) (sz := 6) (e := 24) (B := lb) HB3.out (OwnN.mono HOW.out (by omega)) (by omega) HF.out.2.1) (by show lb ≤ w.heap.size + 1 + 1; omega) _
        case measure => simp only [intOf]; omega
      · go_simp
        (refine (HFR.out _).mono ?_; rintro e x1 ⟨rfl, rfl⟩)
        (try go_wp2_with fail)
        refine hKK.out _ _ hHeld (fun hHeld2 => ?_); clear hKK KK
        (try simp only [Act.put, zSa, zSb, zSc])
        refine zRd 0 (h := fun KK hKK => ?_)
        go_simp
        refine hKK.out _ _ hHeld (fun hHeld3 => ?_); clear hKK KK
        (try simp only [Act.put, zSa, zSb, zSc])
        refine zRd 6 (h := fun KK hKK => ?_)
        go_simp
        (refine HCL.out.mono ?_; rintro e w2 ⟨⟨s, rfl, hns⟩, hl2, hbl2, hk2⟩; dsimp only [RN.val])
        (try go_wp2_with fail)
        have hBB := HBB.out
        have hg2 := (hk2.2 wr.heap.size (by show wr.heap.size < W1.heap.size; omega) (by omega)).trans HG.out
        obtain ⟨y0, y1, y2, y3, y4, y5, yz, yl⟩ := ncells hg2
        have hS2 : w2.cell? ⟨w.heap.size, 0, none⟩ = some (.int .i64 k) := (World.cell?_of_block (hk2.2 w.heap.size (by show w.heap.size < W1.heap.size; omega) (by omega))).trans e0
        have hzz2 : W1.heap.size ≤ w2.heap.size := hk2.1
        have HK3 := Lib.hid (⟨by rw [set_size, set_size, set_size, set_size, set_size, set_size]; omega, fun b hb hm => (six_other (by omega)).trans ((hk2.2 b (by show b < W1.heap.size; omega) (by omega)).trans (HB01.out.block b hb))⟩ : Kept (fun b => b = lb ∨ b = wr.heap.size) wr ((((((w2.setCell ⟨wr.heap.size, 0, none⟩ (.int .i64 s.kind)).setCell ⟨wr.heap.size, 1, none⟩ (.int .i64 s.fr)).setCell ⟨wr.heap.size, 2, none⟩ (.int .i64 s.en)).setCell ⟨wr.heap.size, 3, none⟩ (.int .i64 s.at_)).setCell ⟨wr.heap.size, 4, none⟩ (.string s.name)).setCell ⟨wr.heap.size, 5, none⟩ (.slice s.A s.n s.cap)))
        have HL3 := Lib.hid ((six_other (by omega)).trans hl2 : ((((((w2.setCell ⟨wr.heap.size, 0, none⟩ (.int .i64 s.kind)).setCell ⟨wr.heap.size, 1, none⟩ (.int .i64 s.fr)).setCell ⟨wr.heap.size, 2, none⟩ (.int .i64 s.en)).setCell ⟨wr.heap.size, 3, none⟩ (.int .i64 s.at_)).setCell ⟨wr.heap.size, 4, none⟩ (.string s.name)).setCell ⟨wr.heap.size, 5, none⟩ (.slice s.A s.n s.cap)).heap[lb]? = some (.cells #[.int .i64 (wrapV x lf fr).2] 3 (0, 0)))
        have HB3 := Lib.hid (six_below ((HB1.out.trans (HB01.out.mono (by omega))).drew.trans hbl2) (by omega) : Below lb w ((((((w2.setCell ⟨wr.heap.size, 0, none⟩ (.int .i64 s.kind)).setCell ⟨wr.heap.size, 1, none⟩ (.int .i64 s.fr)).setCell ⟨wr.heap.size, 2, none⟩ (.int .i64 s.en)).setCell ⟨wr.heap.size, 3, none⟩ (.int .i64 s.at_)).setCell ⟨wr.heap.size, 4, none⟩ (.string s.name)).setCell ⟨wr.heap.size, 5, none⟩ (.slice s.A s.n s.cap)))
        have HN3 := Lib.hid (hns.keep (S' := fun b => b < B ∨ (wr.heap.size + 1 ≤ b ∧ b < ((((((w2.setCell ⟨wr.heap.size, 0, none⟩ (.int .i64 s.kind)).setCell ⟨wr.heap.size, 1, none⟩ (.int .i64 s.fr)).setCell ⟨wr.heap.size, 2, none⟩ (.int .i64 s.en)).setCell ⟨wr.heap.size, 3, none⟩ (.int .i64 s.at_)).setCell ⟨wr.heap.size, 4, none⟩ (.string s.name)).setCell ⟨wr.heap.size, 5, none⟩ (.slice s.A s.n s.cap)).heap.size)) (fun p hp => World.cell?_of_block (six_other (by have hp2 : p.block < B ∨ (W1.heap.size ≤ p.block ∧ p.block < w2.heap.size) := hp; omega))) (fun b hb => by have hb2 : b < B ∨ (W1.heap.size ≤ b ∧ b < w2.heap.size) := hb; rw [set_size, set_size, set_size, set_size, set_size, set_size]; omega) : NodeS ((((((w2.setCell ⟨wr.heap.size, 0, none⟩ (.int .i64 s.kind)).setCell ⟨wr.heap.size, 1, none⟩ (.int .i64 s.fr)).setCell ⟨wr.heap.size, 2, none⟩ (.int .i64 s.en)).setCell ⟨wr.heap.size, 3, none⟩ (.int .i64 s.at_)).setCell ⟨wr.heap.size, 4, none⟩ (.string s.name)).setCell ⟨wr.heap.size, 5, none⟩ (.slice s.A s.n s.cap)) _ (wrapV x lf fr).1 s)
        have HG3 := Lib.hid (six_set hg2 : ((((((w2.setCell ⟨wr.heap.size, 0, none⟩ (.int .i64 s.kind)).setCell ⟨wr.heap.size, 1, none⟩ (.int .i64 s.fr)).setCell ⟨wr.heap.size, 2, none⟩ (.int .i64 s.en)).setCell ⟨wr.heap.size, 3, none⟩ (.int .i64 s.at_)).setCell ⟨wr.heap.size, 4, none⟩ (.string s.name)).setCell ⟨wr.heap.size, 5, none⟩ (.slice s.A s.n s.cap)).heap[wr.heap.size]? = some (boxC s))
        refine hKK.out _ _ hS2 (fun hHeld4 => ?_); clear hKK KK
        (try simp only [Act.put, zSa, zSb, zSc])
        refine zRd 7 (h := fun KK hKK => ?_)
        go_simp
        refine hKK.out _ _ ((World.cell?_of_block (six_other (by show w.heap.size ≠ wr.heap.size; omega))).trans hS2) (fun hHeld5 => ?_); clear hKK KK
        refine wpAnyH_done (by kernel_rfl) ?_ _
        clear hHeld hHeld2 hHeld3 hHeld4 hHeld5 hS1 hS2 y0 y1 y2 y3 y4 y5 yz yl hl2 hbl2 hns hg2 e0 e1 e2 e3 e4 e5 ez el t0 t1 t2 t3 t4 t5 tz tl c0 c1 c2 c3 c4 c5 o0 o1 o2 o3 o4 o5 oz ol
        generalize (((((w2.setCell ⟨wr.heap.size, 0, none⟩ (.int .i64 s.kind)).setCell ⟨wr.heap.size, 1, none⟩ (.int .i64 s.fr)).setCell ⟨wr.heap.size, 2, none⟩ (.int .i64 s.en)).setCell ⟨wr.heap.size, 3, none⟩ (.int .i64 s.at_)).setCell ⟨wr.heap.size, 4, none⟩ (.string s.name)).setCell ⟨wr.heap.size, 5, none⟩ (.slice s.A s.n s.cap) = W3 at *
        obtain ⟨y0, y1, y2, y3, y4, y5, yz, yl⟩ := ncells HG3.out
        have hzz3 := HK3.out.1
        have hol2 := (Array.getElem?_eq_some_iff.1 HMD.out.box).1
        have HOB := Lib.hid ((HK3.out.2 (w.heap.size + 1 + 1) (by omega) (by omega)).trans HMD.out.box)
        obtain ⟨o0, o1, o2, o3, o4, o5, oz, ol⟩ := ncells HOB.out
        have HOW := Lib.hid (own_keepN HMD.out.own (fun q hq => HK3.out.2 q (HMD.out.own.lt q hq).2 (by have := (HMD.out.own.lt q hq).1; have := (HMD.out.own.lt q hq).2; omega)))
        clear hk2
        go_wp2_with (first | (at_builtin; go_must (refine wpList_append_rec (cs := RN.cells) rfl _ _ 22 rfl 24 i24 _ 72 Tryz.underlying22 hi24 hz0 hz1 hz2 rfl (by decide) RN.len RN.one W3 (w.heap.size + 1 + 1 + 1) W3.heap.size (.slice A' j c') rs s _ rfl (by rfl) (by rfl) rfl HOW.out (by rw [HRL.out]; unfold maxLen; omega) (by rw [HRL.out]; omega) (by omega) ?_); intro g cap2 w5 ho5 hg5 hat5 hlt5; rw [show rs.length + 1 = j + 1 from congrArg (· + 1) HRL.out] at ho5 ⊢; obtain ⟨q0, q1, q2, q3, q4, q5, qz, ql⟩ := ncells ((hg5.block (w.heap.size + 1 + 1) (by omega) (own_ne HMD.out.own (by omega))).trans HOB.out); have HF := Lib.hid (And.intro ho5 (And.intro hg5 (And.intro hat5 hlt5))); clear ho5 hg5 hat5 hlt5))
        go_roundw
        case rel =>
         have hBB := HBB.out
         have hol := (Array.getElem?_eq_some_iff.1 HMD.out.box).1
         have hgl : w.heap.size + 1 + 1 < g := by
          have := HF.out.1.lt g rfl
          omega
         have hs5 := HF.out.2.1.size
         have hk3 : ∀ b, b < w.heap.size + 1 + 1 → b ≠ lb → (w5.setCell ⟨w.heap.size + 1 + 1, 5, none⟩ (.slice (some ⟨g, 0, none⟩) (j + 1) cap2)).heap[b]? = wr.heap[b]? := fun b h1 h2 =>
          (set_other (by omega)).trans ((HF.out.2.1.block b (by omega) (own_ne HMD.out.own (by omega))).trans (HK3.out.2 b (by omega) (by omega)))
         have hl3 : (w5.setCell ⟨w.heap.size + 1 + 1, 5, none⟩ (.slice (some ⟨g, 0, none⟩) (j + 1) cap2)).heap[lb]? = some (.cells #[.int .i64 (wrapV x lf fr).2] 3 (0, 0)) :=
          (set_other (by omega)).trans ((HF.out.2.1.block lb (by omega) (own_ne HMD.out.own (by omega))).trans HL3.out)
         refine ⟨j + 1, some ⟨g, 0, none⟩, cap2, ms ++ [(wrapV x lf fr).1], rs ++ [s], (wrapV x lf fr).2, by omega, by go_num, HWN.out, (hk3 _ (by omega) (by omega)).trans HH.out.1, (hk3 _ (by omega) (by omega)).trans HH.out.2.1, hl3,
          HMD.out.next (M := fun b => b = lb ∨ b = wr.heap.size) (lo := wr.heap.size + 1) (fun b h => by omega) HK3.out (Kept.refl _ _) HF.out.2.1 (by omega) (by omega) ?_ hgl HF.out.1 HN3.out, ?_, ⟨by rw [set_size]; omega, fun b hb hm => (hk3 b (by omega) hm).trans (HKE.out.2 b hb hm)⟩⟩
         · rcases HF.out.2.2.1 with h | h
           · exact .inl h
           · exact .inr (by rw [h]; omega)
         · exact Below.setCell (p := ⟨w.heap.size + 1 + 1, 5, none⟩) (below_grown (l := rs) (cs := RN.cells) (sz := 6) (e := 24) (B := lb) HB3.out (OwnN.mono HOW.out (by omega)) (by omega) HF.out.2.1) (by show lb ≤ w.heap.size + 1 + 1; omega) _
        case measure => simp only [intOf]; omega
  · have hje : j = l.length := by omega
    subst hje
    have HWL := Lib.hid (show wrapL k 0 l (left - 1) = (ms, lf) by have := HWR.out; rwa [List.take_length] at this)
    have HND := Lib.hid (made_node (S := fun b => b < B ∨ (w.heap.size + 1 + 1 < b ∧ b < wr.heap.size)) HMD.out n rfl (fun b h1 h2 => by omega))
    obtain ⟨z0, z1, z2, z3, z4, z5, zz, zl⟩ := ncells HH.out.2.1
    by_cases hl0 : left = 0
    · have hi0 : is0 = true := by rw [← HIS.out]; exact beq_iff_eq.2 hl0
      subst hi0
      have HL0 := Lib.hid hl0
      clear hl0
      by_cases hmay : may = true
      · have HMY := Lib.hid hmay
        by_cases hk21 : 21 ≤ k
        · by_cases hk33 : k ≤ 33
          · by_cases hk29 : k = 29
            · have h3 : ¬ (left = 0 ∧ may = true ∧ isEx k = true) := by simp [isEx, hk29]
              have h4 : ¬ (left = 0 ∧ may = true ∧ isSt k = true) := by simp [isSt, hk29]
              have hW : wrapV (.mk k f en a n l) left may = (.mk k f en a n ms, lf) := by
               unfold wrapV; simp only [HWL.out]; rw [if_neg h3, if_neg h4]
              have hn29 : (k != 29) = false := by simp [hk29]
              have he29 : (k == 29) = true := by simp [hk29]
              have hd29 : decide (k = 29) = true := decide_eq_true hk29
              have h11 : ¬ k = 11 := by omega
              have h14 : ¬ k = 14 := by omega
              have h19 : ¬ k = 19 := by omega
              clear hk29
              have b11 : (k == 11) = false := beq_eq_false_iff_ne.2 h11
              have b14 : (k == 14) = false := beq_eq_false_iff_ne.2 h14
              have b19 : (k == 19) = false := beq_eq_false_iff_ne.2 h19
              go_wp2_with fail
              refine bodyPost_ret (v := (⟨k, f, en, a, toBA n, A', l.length, c'⟩ : RN).val) (results_cell_row (p := 6) rfl _ _ (w.heap.size + 1) 24 _ (0, 0) _ rfl (six_set HH.out.2.1) Tryz.underlying24 rfl (by kernel_rfl)) rfl (wrap_end (s := ⟨k, f, en, a, toBA n, A', l.length, c'⟩) (by first | (rw [hW]; exact HND.out) | (simp only [HMY.out] at hW; rw [hW]; exact HND.out)) (by first | (rw [hW]; exact HH.out.2.2) | (simp only [HMY.out] at hW; rw [hW]; exact HH.out.2.2)) HB1.out HKE.out HBB.out hlbs (by omega))
            · have hn29 : (k != 29) = true := by simp [hk29]
              have hW : wrapV (.mk k f en a n l) left may = (.mk 33 0 0 0 [] [.mk k f en a n ms], lf) := by
               unfold wrapV; simp only [HWL.out]; rw [if_pos ⟨HL0.out, hmay, by simp [isEx, hk21, hk33, hk29]⟩]
              have HWW := Lib.hid (show ∀ m, m = true → wrapV (.mk k f en a n l) left m = (.mk 33 0 0 0 [] [.mk k f en a n ms], lf) from fun m hm => by subst hm; rw [← hmay]; exact hW)
              have HPZ := Lib.hid (fun W => mParen2 ⟨k, f, en, a, toBA n, A', l.length, c'⟩ W)
              unfold RN.val at HPZ
              clear hW
              go_wp2_with (go_at_call 41; refine (HPZ.out _).mono ?_; rintro e wB ⟨rfl, hgB, hbB⟩; dsimp only [RN.val]; have HBB2 := Lib.hid hbB; have HGB := Lib.hid hgB; have hz1B := nb_below HH.out.2.1 hbB; have HZ1 := Lib.hid hz1B; obtain ⟨z0, z1, z2, z3, z4, z5, zz, zl⟩ := ncells hz1B; clear hz1B hbB hgB)
              have hsB := HBB2.out.size
              have hgl := (Array.getElem?_eq_some_iff.1 HGB.out).1
              refine bodyPost_ret (v := (⟨33, 0, 0, 0, ⟨#[]⟩, some ⟨wr.heap.size + 1 + 1, 0, none⟩, 1, 1⟩ : RN).val) (results_cell_row (p := 6) rfl _ _ (w.heap.size + 1) 24 _ (0, 0) _ rfl (six_set HZ1.out) Tryz.underlying24 rfl (by kernel_rfl)) rfl (wrap_end (s := ⟨33, 0, 0, 0, ⟨#[]⟩, some ⟨wr.heap.size + 1 + 1, 0, none⟩, 1, 1⟩) ?_ ?_ ?_ ?_ HBB.out hlbs (by omega))
              · rw [HWW.out _ (by first | rfl | exact hmay)]
                exact one_node (S := fun b => b < B ∨ (w.heap.size + 1 + 1 < b ∧ b < wr.heap.size)) HGB.out (HND.out.keep (fun p hp => HBB2.out.cell (by have := HBB.out; omega)) (fun b hb => hb)) (fun b hb => by omega) (by omega)
              · rw [HWW.out _ (by first | rfl | exact hmay)]; exact nb_below HH.out.2.2 HBB2.out
              · exact HB1.out.trans (HBB2.out.mono (by omega))
              · exact HKE.out.trans (Kept.of_below HBB2.out)
          · have h3 : ¬ (left = 0 ∧ may = true ∧ isEx k = true) := by simp [isEx, hk33]
            have h11 : ¬ k = 11 := by omega
            have h14 : ¬ k = 14 := by omega
            have h19 : ¬ k = 19 := by omega
            have h4 : ¬ (left = 0 ∧ may = true ∧ isSt k = true) := by simp [isSt, h11, h14, h19]
            have b11 : (k == 11) = false := beq_eq_false_iff_ne.2 h11
            have b14 : (k == 14) = false := beq_eq_false_iff_ne.2 h14
            have b19 : (k == 19) = false := beq_eq_false_iff_ne.2 h19
            have hW : wrapV (.mk k f en a n l) left may = (.mk k f en a n ms, lf) := by
             unfold wrapV; simp only [HWL.out]; rw [if_neg h3, if_neg h4]
            go_wp2_with fail
            refine bodyPost_ret (v := (⟨k, f, en, a, toBA n, A', l.length, c'⟩ : RN).val) (results_cell_row (p := 6) rfl _ _ (w.heap.size + 1) 24 _ (0, 0) _ rfl (six_set HH.out.2.1) Tryz.underlying24 rfl (by kernel_rfl)) rfl (wrap_end (s := ⟨k, f, en, a, toBA n, A', l.length, c'⟩) (by first | (rw [hW]; exact HND.out) | (simp only [HMY.out] at hW; rw [hW]; exact HND.out)) (by first | (rw [hW]; exact HH.out.2.2) | (simp only [HMY.out] at hW; rw [hW]; exact HH.out.2.2)) HB1.out HKE.out HBB.out hlbs (by omega))
        · by_cases h11 : k = 11
          · have hks : k = 11 := h11
            have hW : wrapV (.mk k f en a n l) left may = (.mk 10 0 0 0 [] [.mk k f en a n ms], lf) := by
             unfold wrapV; simp only [HWL.out]; rw [if_neg (by simp [isEx, hks]), if_pos ⟨HL0.out, hmay, by simp [isSt, hks]⟩]
            have HWW := Lib.hid (show ∀ m, m = true → wrapV (.mk k f en a n l) left m = (.mk 10 0 0 0 [] [.mk k f en a n ms], lf) from fun m hm => by subst hm; rw [← hmay]; exact hW)
            subst hks
            clear hW
            go_wp2_with (go_at_call 51; refine (mBlock _ _ _ _).mono ?_; rintro e wB ⟨rfl, hbB⟩; dsimp only [RN.val]; have HBB2 := Lib.hid hbB; have hz1B := nb_below (nb_alloc HH.out.2.1) hbB; have HZ1 := Lib.hid hz1B; obtain ⟨z0, z1, z2, z3, z4, z5, zz, zl⟩ := ncells hz1B; clear hz1B hbB)
            have hsB := HBB2.out.size
            rw [World.size_alloc] at hsB
            refine bodyPost_ret (v := (⟨10, 0, 0, 0, ⟨#[]⟩, some ⟨wr.heap.size, 0, none⟩, 1, 1⟩ : RN).val) (results_cell_row (p := 6) rfl _ _ (w.heap.size + 1) 24 _ (0, 0) _ rfl (six_set HZ1.out) Tryz.underlying24 rfl (by kernel_rfl)) rfl (wrap_end (s := ⟨10, 0, 0, 0, ⟨#[]⟩, some ⟨wr.heap.size, 0, none⟩, 1, 1⟩) ?_ ?_ ?_ ?_ HBB.out hlbs (by omega))
            · rw [HWW.out _ (by first | rfl | exact hmay)]
              exact one_node (S := fun b => b < B ∨ (w.heap.size + 1 + 1 < b ∧ b < wr.heap.size)) (nb_below (new_at rfl) HBB2.out) (HND.out.keep (fun p hp => (HBB2.out.cell (by rw [World.size_alloc]; have := HBB.out; omega)).trans (World.cell?_alloc_lt _ _ _ (by have := HBB.out; omega))) (fun b hb => hb)) (fun b hb => by omega) (by omega)
            · rw [HWW.out _ (by first | rfl | exact hmay)]; exact nb_below (nb_alloc HH.out.2.2) HBB2.out
            · exact (HB1.out.alloc (by omega) _).trans (HBB2.out.mono (by rw [World.size_alloc]; omega))
            · exact HKE.out.trans ((Kept.of_below (zA (zR _))).trans (Kept.of_below HBB2.out))
          by_cases h14 : k = 14
          · have hks : k = 14 := h14
            have hW : wrapV (.mk k f en a n l) left may = (.mk 10 0 0 0 [] [.mk k f en a n ms], lf) := by
             unfold wrapV; simp only [HWL.out]; rw [if_neg (by simp [isEx, hks]), if_pos ⟨HL0.out, hmay, by simp [isSt, hks]⟩]
            have HWW := Lib.hid (show ∀ m, m = true → wrapV (.mk k f en a n l) left m = (.mk 10 0 0 0 [] [.mk k f en a n ms], lf) from fun m hm => by subst hm; rw [← hmay]; exact hW)
            subst hks
            clear hW
            go_wp2_with (go_at_call 51; refine (mBlock _ _ _ _).mono ?_; rintro e wB ⟨rfl, hbB⟩; dsimp only [RN.val]; have HBB2 := Lib.hid hbB; have hz1B := nb_below (nb_alloc HH.out.2.1) hbB; have HZ1 := Lib.hid hz1B; obtain ⟨z0, z1, z2, z3, z4, z5, zz, zl⟩ := ncells hz1B; clear hz1B hbB)
            have hsB := HBB2.out.size
            rw [World.size_alloc] at hsB
            refine bodyPost_ret (v := (⟨10, 0, 0, 0, ⟨#[]⟩, some ⟨wr.heap.size, 0, none⟩, 1, 1⟩ : RN).val) (results_cell_row (p := 6) rfl _ _ (w.heap.size + 1) 24 _ (0, 0) _ rfl (six_set HZ1.out) Tryz.underlying24 rfl (by kernel_rfl)) rfl (wrap_end (s := ⟨10, 0, 0, 0, ⟨#[]⟩, some ⟨wr.heap.size, 0, none⟩, 1, 1⟩) ?_ ?_ ?_ ?_ HBB.out hlbs (by omega))
            · rw [HWW.out _ (by first | rfl | exact hmay)]
              exact one_node (S := fun b => b < B ∨ (w.heap.size + 1 + 1 < b ∧ b < wr.heap.size)) (nb_below (new_at rfl) HBB2.out) (HND.out.keep (fun p hp => (HBB2.out.cell (by rw [World.size_alloc]; have := HBB.out; omega)).trans (World.cell?_alloc_lt _ _ _ (by have := HBB.out; omega))) (fun b hb => hb)) (fun b hb => by omega) (by omega)
            · rw [HWW.out _ (by first | rfl | exact hmay)]; exact nb_below (nb_alloc HH.out.2.2) HBB2.out
            · exact (HB1.out.alloc (by omega) _).trans (HBB2.out.mono (by rw [World.size_alloc]; omega))
            · exact HKE.out.trans ((Kept.of_below (zA (zR _))).trans (Kept.of_below HBB2.out))
          by_cases h19 : k = 19
          · have hks : k = 19 := h19
            have hW : wrapV (.mk k f en a n l) left may = (.mk 10 0 0 0 [] [.mk k f en a n ms], lf) := by
             unfold wrapV; simp only [HWL.out]; rw [if_neg (by simp [isEx, hks]), if_pos ⟨HL0.out, hmay, by simp [isSt, hks]⟩]
            have HWW := Lib.hid (show ∀ m, m = true → wrapV (.mk k f en a n l) left m = (.mk 10 0 0 0 [] [.mk k f en a n ms], lf) from fun m hm => by subst hm; rw [← hmay]; exact hW)
            subst hks
            clear hW
            go_wp2_with (go_at_call 51; refine (mBlock _ _ _ _).mono ?_; rintro e wB ⟨rfl, hbB⟩; dsimp only [RN.val]; have HBB2 := Lib.hid hbB; have hz1B := nb_below (nb_alloc HH.out.2.1) hbB; have HZ1 := Lib.hid hz1B; obtain ⟨z0, z1, z2, z3, z4, z5, zz, zl⟩ := ncells hz1B; clear hz1B hbB)
            have hsB := HBB2.out.size
            rw [World.size_alloc] at hsB
            refine bodyPost_ret (v := (⟨10, 0, 0, 0, ⟨#[]⟩, some ⟨wr.heap.size, 0, none⟩, 1, 1⟩ : RN).val) (results_cell_row (p := 6) rfl _ _ (w.heap.size + 1) 24 _ (0, 0) _ rfl (six_set HZ1.out) Tryz.underlying24 rfl (by kernel_rfl)) rfl (wrap_end (s := ⟨10, 0, 0, 0, ⟨#[]⟩, some ⟨wr.heap.size, 0, none⟩, 1, 1⟩) ?_ ?_ ?_ ?_ HBB.out hlbs (by omega))
            · rw [HWW.out _ (by first | rfl | exact hmay)]
              exact one_node (S := fun b => b < B ∨ (w.heap.size + 1 + 1 < b ∧ b < wr.heap.size)) (nb_below (new_at rfl) HBB2.out) (HND.out.keep (fun p hp => (HBB2.out.cell (by rw [World.size_alloc]; have := HBB.out; omega)).trans (World.cell?_alloc_lt _ _ _ (by have := HBB.out; omega))) (fun b hb => hb)) (fun b hb => by omega) (by omega)
            · rw [HWW.out _ (by first | rfl | exact hmay)]; exact nb_below (nb_alloc HH.out.2.2) HBB2.out
            · exact (HB1.out.alloc (by omega) _).trans (HBB2.out.mono (by rw [World.size_alloc]; omega))
            · exact HKE.out.trans ((Kept.of_below (zA (zR _))).trans (Kept.of_below HBB2.out))
          have h3 : ¬ (left = 0 ∧ may = true ∧ isEx k = true) := by simp [isEx, hk21]
          have h4 : ¬ (left = 0 ∧ may = true ∧ isSt k = true) := by simp [isSt, h11, h14, h19]
          have b11 : (k == 11) = false := beq_eq_false_iff_ne.2 h11
          have b14 : (k == 14) = false := beq_eq_false_iff_ne.2 h14
          have b19 : (k == 19) = false := beq_eq_false_iff_ne.2 h19
          have hW : wrapV (.mk k f en a n l) left may = (.mk k f en a n ms, lf) := by
           unfold wrapV; simp only [HWL.out]; rw [if_neg h3, if_neg h4]
          go_wp2_with fail
          refine bodyPost_ret (v := (⟨k, f, en, a, toBA n, A', l.length, c'⟩ : RN).val) (results_cell_row (p := 6) rfl _ _ (w.heap.size + 1) 24 _ (0, 0) _ rfl (six_set HH.out.2.1) Tryz.underlying24 rfl (by kernel_rfl)) rfl (wrap_end (s := ⟨k, f, en, a, toBA n, A', l.length, c'⟩) (by first | (rw [hW]; exact HND.out) | (simp only [HMY.out] at hW; rw [hW]; exact HND.out)) (by first | (rw [hW]; exact HH.out.2.2) | (simp only [HMY.out] at hW; rw [hW]; exact HH.out.2.2)) HB1.out HKE.out HBB.out hlbs (by omega))
      · have hm0 : may = false := by simpa using hmay
        have HMY := Lib.hid hm0
        have h3 : ¬ (left = 0 ∧ may = true ∧ isEx k = true) := by simp [hm0]
        have h4 : ¬ (left = 0 ∧ may = true ∧ isSt k = true) := by simp [hm0]
        have hW : wrapV (.mk k f en a n l) left may = (.mk k f en a n ms, lf) := by
         unfold wrapV; simp only [HWL.out]; rw [if_neg h3, if_neg h4]
        go_wp2_with fail
        refine bodyPost_ret (v := (⟨k, f, en, a, toBA n, A', l.length, c'⟩ : RN).val) (results_cell_row (p := 6) rfl _ _ (w.heap.size + 1) 24 _ (0, 0) _ rfl (six_set HH.out.2.1) Tryz.underlying24 rfl (by kernel_rfl)) rfl (wrap_end (s := ⟨k, f, en, a, toBA n, A', l.length, c'⟩) (by first | (rw [hW]; exact HND.out) | (simp only [HMY.out] at hW; rw [hW]; exact HND.out)) (by first | (rw [hW]; exact HH.out.2.2) | (simp only [HMY.out] at hW; rw [hW]; exact HH.out.2.2)) HB1.out HKE.out HBB.out hlbs (by omega))
    · have hi0 : is0 = false := by rw [← HIS.out]; exact beq_eq_false_iff_ne.2 hl0
      subst hi0
      have h3 : ¬ (left = 0 ∧ may = true ∧ isEx k = true) := fun h => hl0 h.1
      have h4 : ¬ (left = 0 ∧ may = true ∧ isSt k = true) := fun h => hl0 h.1
      have hW : wrapV (.mk k f en a n l) left may = (.mk k f en a n ms, lf) := by
       unfold wrapV; simp only [HWL.out]; rw [if_neg h3, if_neg h4]
      go_wp2_with fail
      refine bodyPost_ret (v := (⟨k, f, en, a, toBA n, A', l.length, c'⟩ : RN).val) (results_cell_row (p := 6) rfl _ _ (w.heap.size + 1) 24 _ (0, 0) _ rfl (six_set HH.out.2.1) Tryz.underlying24 rfl (by kernel_rfl)) rfl (wrap_end (s := ⟨k, f, en, a, toBA n, A', l.length, c'⟩) (by rw [hW]; exact HND.out) (by rw [hW]; exact HH.out.2.2) HB1.out HKE.out HBB.out hlbs (by omega))
def zF (ro : Option Nat) : Fence := { Fence.wide with round := ro }
theorem rows_zF {P : Program} {row : String} {args : Array Value} {w : World} {ro : Option Nat} {R : Value → World → Prop} (h : Rows P row args w R) : RowsIn (zF ro) 0 P row args w R :=
 fun c cs _ => let ⟨v, w', r, s⟩ := h c cs; ⟨v, w', r, stepsIn_wide.2 s⟩
theorem oper_zF {P : Program} {o : Oper} {a : Act} {w : World} {K K' : Act → World → Prop} {Q : Exit → Act → World → Prop} {ro : Option Nat} (hd : ∀ c, o.op ≠ .defer c) (hK : ∀ a w, K a w → K' a w) (h : o.wp P a w K Q) : o.wpIn (zF ro) 0 P a w K' Q := by
 unfold Oper.wp at h
 unfold Oper.wpIn
 refine ⟨fun _ _ => trivial, ?_⟩
 rw [show (zF ro).round = ro from rfl, Oper.semAt_eq _ _ _ hd]
 generalize (execOp a.eval o).run P w = r at *
 cases r with
 | ok x w' =>
  cases x with
  | value v => exact hK _ _ h
  | skip => exact hK _ _ h
  | defer d => exact hK _ _ h
  | enter f args =>
   refine ⟨fun hh => by simp [zF, Fence.wide] at hh, ?_⟩
   refine (callsIn_wide (n := 0)).2 (Calls.mono h ?_)
   intro e w'' he
   cases e with
   | returned v => exact hK _ _ he
   | panicked c => exact he
   | outgrown => exact he
  | row row args => exact ⟨fun hh => by simp [zF, Fence.wide] at hh, rows_zF (Rows.mono h (fun v w'' he => hK _ _ he))⟩
  | _ => exact h.elim
 | halt x w' =>
  cases x with
  | panic v => exact h
  | _ => exact h.elim
def noDefer (o : Oper) : Bool := match o.op with | .defer _ => false | _ => true
theorem noDefer_spec {o : Oper} (h : noDefer o = true) : ∀ c, o.op ≠ .defer c := fun c e => by unfold noDefer at h; rw [e] at h; cases h
section
variable {P : Program} {ops : Array Oper} {Q : Exit → Act → World → Prop} {md : Region.Mode} {S : World → Prop} {a : Act} {w : World} {ro : Option Nat}
theorem any_zF (hd : ops.all noDefer = true) (hL : ¬ LetsOut Q) : ∀ (fuel : Nat) (listed : Array Bool) (a : Act) (w : World), wpAny P md ops Q fuel listed a w → wpAnyIn (zF ro) 0 P md ops Q fuel listed a w
 | 0, _, _, _, h => h
 | fuel + 1, listed, a, w, h => ⟨h.1, fun i hi => by
  have h2 := h.2 i hi
  unfold wpOp at h2
  unfold wpOpIn
  cases ho : ops[i]? with
  | none => rw [ho] at h2; exact any_zF hd hL fuel _ _ _ h2
  | some o =>
   rw [ho] at h2
   simp only at h2 ⊢
   have hnd : noDefer o = true := by
    obtain ⟨hlt, e⟩ := Array.getElem?_eq_some_iff.1 ho
    have := Array.all_eq_true.1 hd i hlt
    rw [e] at this; exact this
   split
   · rename_i hw
     rw [if_pos hw] at h2
     rcases h2 with h2 | h2
     · exact oper_zF (noDefer_spec hnd) (fun a w h => any_zF hd hL fuel _ a w h) h2
     · exact absurd h2.2 hL
   · rename_i hw
     rw [if_neg hw] at h2
     exact ⟨fun _ _ => trivial, any_zF hd hL fuel _ _ _ h2⟩⟩
def zQ (K : Act → World → Prop) : Exit → Act → World → Prop
 | .normal, a, w => K a w
 | _, _, _ => False
theorem zHI {F : Fence} (ro : Option Nat) {W0 : World} {id : Nat} (hF : F = zF ro) (HKP : Hid (∀ W', Below W0.heap.size W0 W' → S W')) (h : S w.drew → wpAnyH P .any ops (zQ (Q .normal)) S ops.size (Array.replicate ops.size false) a w.drew)
  (hd : ops.all noDefer = true := by kernel_rfl) (hm : P.follows .mixedOrders = true := by kernel_rfl) (hb : Below W0.heap.size W0 w.drew := by repeat (first | exact zR _ | assumption | apply zA | apply zD | refine zT ?_ (by assumption))) : (Code.region id ops true).wpIn F 0 P Q a w := by
 subst hF
 refine Code.wpIn_mono (Q := zQ (Q .normal)) (fun e a w he => ?_) (wpIn_region_any hm (any_zF hd (by rintro ⟨_, _, h⟩; exact h) _ _ _ _ (wpAny_of_held _ _ _ _ (h (HKP.out _ hb)))))
 cases e with
 | normal => exact he
 | _ => exact he.elim
theorem zDN {K : Act → World → Prop} {fuel : Nat} {listed : Array Bool} (h : K a w) (hr : Region.ready md ops listed = [] := by kernel_rfl) : wpAnyH P md ops (zQ K) S fuel listed a w := wpAnyH_done hr h fuel
end
section
theorem func_nil (f : Fn) (a b : Array Value) (W : World) : (binOp .eql 37 (.func f a b) .nilFunc).run Tryz.prog W = .ok (.bool false) W := by kernel_rfl
attribute [local go_sem] Oper.semAt_some func_nil
theorem end_cell0 {fn : Func} {p : Tmp} (hres : fn.results = #[.cell p 4]) {tmps : Array Value} {b : Nat} {v : Value} {w : World} {R : Ending → World → Prop} (hp : tmps.getD p undef = .pointer (some ⟨b, 0, none⟩))
  (hb : w.heap[b]? = some (.cells #[v] 4 (0, 0))) (hR : R (.returned v) w) : bodyPostM Fence.wide 0 Tryz.prog fn R .ret { tmps := tmps, defers := [] } w := by
 refine ⟨v, ?_, hR⟩
 have hp' : tmps[p]?.getD undef = .pointer (some ⟨b, 0, none⟩) := by rw [← hp]; simp
 simp only [results, hres]
 simp [Sem.run_bind, Result.andThen, hp', asAddr, load_bool hb]
end
section
attribute [local go_sem] Oper.semAt_some func_nil
theorem lawMakes (m : Int) (hm0 : 0 ≤ m) (hm1 : m ≤ 65535) (t : Tree) (r : RN) (w : World) (hG : LexG w) (hm : NodeM w w.heap.size t r) (hf : fineT t) :
  Calls Tryz.prog 7 #[r.val, .int .u16 m] w fun e w' => e = .returned (.bool true) ∧ Below w.heap.size w w' := by
 obtain ⟨W0, hW0⟩ : ∃ W0, (w.alloc (boxC r)).alloc (.cells #[.bool false] 4) = W0 := ⟨_, rfl⟩
 have HX := Lib.hid (show W0.heap[w.heap.size]? = some (boxC r) ∧ W0.heap[w.heap.size + 1]? = some (.cells #[.bool false] 4 (0, 0)) by
  rw [← hW0]; exact ⟨nb_alloc (heap_alloc_new _ _), new_at (by simp)⟩)
 have HB := Lib.hid (show Below w.heap.size w W0 by rw [← hW0]; exact zA (zA (zR _)))
 have HM := Lib.hid (fun W (hb : Below W0.heap.size W0 W) => hm.under (below_then HB.out hb) (Nat.le_refl _))
 have HN := Lib.hid (fun W (hb : Below W0.heap.size W0 W) => hm.after (Nat.le_refl _) (below_then HB.out hb))
 have HG := Lib.hid hG
 have HW := Lib.hid (fun W (hb : Below W0.heap.size W0 W) => aWorks W ((hG.below HB.out).below hb))
 have HF := Lib.hid (fun W (hb : Below W0.heap.size W0 W) => aFew t r W (HN.out W hb) hf)
 have hcost : decide (0 < sizeV 3000 t) = true → costT t ≤ 2999 := fun h => few_strict (of_decide_eq_true h)
 generalize decide (0 < sizeV 3000 t) = d at *
 obtain ⟨e0, e1, e2, e3, e4, e5, ez, el⟩ := ncells HX.out.1
 obtain ⟨b0, bz, bl⟩ := cell1 HX.out.2
 cases d with
 | false =>
  clear hcost
  unfold RN.val at HF ⊢
  unfold boxC at hW0
  refine (callsIn_wide (n := 0)).1 (callsIn_of_wp_marks Tryz.func7 rfl trivial ?_)
  simp only [Tryz.ntmps7, List.size_toArray, List.length_cons, List.length_nil, Nat.reduceAdd, Nat.reduceSub, Array.replicate_succ, Array.replicate_zero, List.push_toArray, List.append_toArray, List.nil_append, List.cons_append]
  gi_wp2_with (refine ⟨trivial, rfl, ?_⟩; first | (gi_at_call 11; refine (callsIn_wide.2 (HF.out _ (Below.refl _ _))).mono ?_; rintro e wA ⟨rfl, hbA⟩) | (gi_at_call 12; refine (callsIn_wide.2 (HW.out _ hbA)).mono ?_; rintro e wB ⟨rfl, hbB⟩; obtain ⟨q0, qz, ql⟩ := cell1 (nb_below HX.out.2 (below_then hbA hbB))))
  (first | refine ⟨fun _ _ => trivial, ?_⟩ | refine ⟨trivial, ?_⟩ | trace_state)
  gi_wp2_with (refine ⟨trivial, rfl, ?_⟩; first | (gi_at_call 11; refine (callsIn_wide.2 (HF.out _ (Below.refl _ _))).mono ?_; rintro e wA ⟨rfl, hbA⟩) | (gi_at_call 12; refine (callsIn_wide.2 (HW.out _ hbA)).mono ?_; rintro e wB ⟨rfl, hbB⟩; obtain ⟨q0, qz, ql⟩ := cell1 (nb_below HX.out.2 (below_then hbA hbB))))
  refine end_cell0 rfl rfl (b := w.heap.size + 1) (set_heap (nb_below HX.out.2 (below_then hbA hbB))) ⟨rfl, ?_⟩
  exact (below_then HB.out (below_then hbA hbB)).setCell (p := ⟨w.heap.size + 1, 0, none⟩) (by simp) _
 | true =>
  have hc := hcost rfl
  clear hcost
  have HCK := Lib.hid (fun W (hb : Below W0.heap.size W0 W) => aCheck t r W ((hG.below HB.out).below hb) (HN.out W hb) (by omega))
  by_cases hck : checkV nameV tokT t = 0
  · obtain ⟨hdep, hfile⟩ := chk_ok hck
    rw [hck] at HCK
    obtain ⟨rs, hrl, hE⟩ := aeach w w.heap.size t r hm (by omega)
    have hEA := aEach r
    have hle := Nat.le_trans (each_cost t) hc
    have hpos := each_pos (file_kind hfile)
    have HKI := Lib.hid (file_each nameV tokT t hfile)
    have HDE := Lib.hid (depth_le t)
    have HAD := Lib.hid (fun W (hb : Below W0.heap.size W0 W) => aDepth t r W (HN.out W hb) (by omega))
    have HAW := Lib.hid (fun W (hb : Below W0.heap.size W0 W) (lb : Nat) (left : Int) (h1 : w.heap.size ≤ lb) (h2 : W.heap[lb]? = some (.cells #[.int .i64 left] 3 (0, 0))) (h3 : 0 ≤ left) (h4 : left ≤ 3000) => aWrapped t r W w.heap.size lb left false (HM.out W hb) h1 h2 (by omega) (by omega) (by omega))
    have HCH := Lib.hid (fun left => chk_wrap (t := t) left hfile)
    have HCO := Lib.hid (fun (left : Int) => (wrap_cost t left false).2)
    clear hf hck
    unfold RN.val at HF HCK HAD HAW hEA ⊢
    unfold boxC at hW0
    refine (callsIn_wide (n := 0)).1 (callsIn_of_wp_marks Tryz.func7 rfl trivial ?_)
    simp only [Tryz.ntmps7, List.size_toArray, List.length_cons, List.length_nil, Nat.reduceAdd, Nat.reduceSub, Array.replicate_succ, Array.replicate_zero, List.push_toArray, List.append_toArray, List.nil_append, List.cons_append]
    gi_wp2_with (refine ⟨trivial, rfl, ?_⟩; first | (gi_at_call 23; refine (callsIn_wide.2 (hEA _)).mono ?_; rintro e w2 ⟨rfl, rfl⟩) | (gi_at_call 11; refine (callsIn_wide.2 (HF.out _ (Below.refl _ _))).mono ?_; rintro e wA ⟨rfl, hbA⟩; clear e0 e1 e2 e3 e4 e5 ez el b0 bz bl; obtain ⟨e0, e1, e2, e3, e4, e5, ez, el⟩ := ncells (nb_below HX.out.1 hbA)) | (gi_at_call 13; refine (callsIn_wide.2 (HCK.out _ hbA)).mono ?_; rintro e w1 ⟨rfl, hb1⟩; have HB1 := Lib.hid (below_then hbA hb1); clear e0 e1 e2 e3 e4 e5 ez el hbA hb1; obtain ⟨e0, e1, e2, e3, e4, e5, ez, el⟩ := ncells (nb_below HX.out.1 HB1.out)))
    have hN : rs.length = (eachV t).length := hrl.1
    have hszb := HB.out.size
    have hsz1 := HB1.out.size
    have hzw : w.heap.size + 1 < W0.heap.size := (Array.getElem?_eq_some_iff.1 HX.out.2).1
    apply wide_range3 (gf := 48) (lb := #[.pointer (some ⟨w1.heap.size + 1, 0, none⟩)]) rfl (Go.Proofs.enters_of Tryz.func48 (by kernel_rfl) rfl) (each_hands hE (w1.heap.size + 1))
     (fun k W => Below w1.heap.size w1 W ∧ W.heap[w1.heap.size]? = some (.cells #[.int .i64 (k : Nat)] 3 (0, 0)) ∧ W.heap[w1.heap.size + 1]? = some (boxC r))
     (fun c W => False)
     (fun b => b = w1.heap.size)
     (a₁ := fun k b => { tmps := #[.agg #[.int .i64 r.kind, .int .i64 r.fr, .int .i64 r.en, .int .i64 r.at_, .string r.name, .slice r.A r.n r.cap], .int .u16 m, .pointer (some ⟨w.heap.size, 0, none⟩), undef, .pointer (some ⟨w.heap.size + 1, 0, none⟩), .pointer (some ⟨w1.heap.size, 0, none⟩), .func (.func 48) #[] #[.pointer (some ⟨w1.heap.size + 1, 0, none⟩)], .pointer (some ⟨b, 0, none⟩), undef, undef, undef, .agg #[.int .i64 r.kind, .int .i64 r.fr, .int .i64 r.en, .int .i64 r.at_, .string r.name, .slice r.A r.n r.cap], .bool true, .bool false, .bool false, .agg #[.int .i64 r.kind, .int .i64 r.fr, .int .i64 r.en, .int .i64 r.at_, .string r.name, .slice r.A r.n r.cap], .int .i64 0, .bool false, .bool false, undef, .agg #[.int .i64 r.kind, .int .i64 r.fr, .int .i64 r.en, .int .i64 r.at_, .string r.name, .slice r.A r.n r.cap], .func (.func 48) #[] #[.pointer (some ⟨w1.heap.size + 1, 0, none⟩)], .func (.func 48) #[] #[.pointer (some ⟨w1.heap.size + 1, 0, none⟩)], .bool false, .func (.func 48) #[] #[.pointer (some ⟨w1.heap.size + 1, 0, none⟩)], (elN rs k).val, undef, undef, undef, undef, undef, undef, undef, undef, undef, undef, undef, undef, undef, undef, undef, undef, undef, undef, undef, undef, undef, undef, undef, undef, undef, undef, undef, undef, undef, undef, undef, undef, undef, undef, undef, undef, undef, undef, undef, undef, undef, undef, undef, undef, undef, undef, undef, undef], defers := [] })
     (ob := fun k => boxC (elN rs k))
    case hMc => rintro b rfl; simp; omega
    case hI =>
     rintro k W W' ⟨h1, h2, h3⟩ hb
     simp only [World.size_alloc] at hb
     exact ⟨h1.trans (hb.mono (by omega)), (hb.block _ (by omega)).trans h2, (hb.block _ (by omega)).trans h3⟩
    case hIx => exact fun _ _ _ h _ => h
    case hKK =>
     rintro k W ⟨h1, h2, h3⟩
     have hz := h1.size
     refine ⟨h3, fun p hp => ?_, by omega⟩
     exact (h1.cell (by omega)).trans ((HB1.out.cell (by omega)).trans (HB.out.cell hp))
    case h0 => exact ⟨zA (zA (zR _)), nb_alloc (heap_alloc_new _ _), new_at (by simp)⟩
    case hassign =>
     intro lp k W K hK
     simp only [RN.val] at hK ⊢
     gi_wp2
     exact hK
    case hbody =>
     rintro lp k b W ⟨h1, h2, h3⟩ hk hb hwb
     obtain ⟨x, hx⟩ : ∃ x, (eachV t)[k]? = some x := ⟨_, List.getElem?_eq_getElem (by omega)⟩
     obtain ⟨y, hy⟩ : ∃ y, rs[k]? = some y := ⟨_, List.getElem?_eq_getElem hk⟩
     have hkd := HKI.out x (List.mem_of_getElem? hx)
     rw [← (hrl.2 k x y hx hy).kind] at hkd
     have hk1 : ¬ y.kind < 1 := by omega
     have hk2 : ¬ 33 < y.kind := by omega
     have hz := h1.size
     rw [elN_at hy] at hb ⊢
     unfold RN.val
     obtain ⟨f0, f1, f2, f3, f4, f5, fz, fl⟩ := ncells hb
     obtain ⟨q0, qz, ql⟩ := cell1 h2
     have hk3 : k < 3000 := by omega
     have hwk : IntKind.i64.wrap ((k : Int) + 1) = (k : Int) + 1 := by rw [IntKind.wrap_i64]; omega
     have hne : w1.heap.size + 1 ≠ w1.heap.size := by omega
     have HK := Lib.hid (And.intro (Kept.setCell (fun b => b = w1.heap.size) W ⟨w1.heap.size, 0, none⟩ (.int .i64 ((k : Int) + 1)) rfl) (And.intro (h1.setCell (p := ⟨w1.heap.size, 0, none⟩) (by simp) (.int .i64 ((k : Int) + 1))) (And.intro (set_heap (i := 0) (v := .int .i64 ((k : Int) + 1)) h2) ((set_other (i := 0) (v := .int .i64 ((k : Int) + 1)) hne).trans h3))))
     clear h1 h2 h3 hb hx hy hkd hE hEA hrl hm
     gi_wp2_with fail
     exact HK.out
    case hstop => exact fun _ _ _ _ h => h.elim
    case hdone =>
     rintro D W hD ⟨h1, h2, h3⟩ hd
     simp only [World.size_alloc] at hD
     have hz := h1.size
     rw [hN] at h2
     have hW0W := zT HB1.out h1
     have HW0W := Lib.hid hW0W
     have hdN := HDE.out
     have hdl := (Array.getElem?_eq_some_iff.1 hd).1
     obtain ⟨N, hNN⟩ : ∃ N, (eachV t).length = N := ⟨_, rfl⟩
     rw [hNN] at h2 hdN hpos hle
     obtain ⟨dp, hdp⟩ : ∃ dp, depthV t = dp := ⟨_, rfl⟩
     rw [hdp] at HAD hdep hdN
     obtain ⟨e0, e1, e2, e3, e4, e5, ez, el⟩ := ncells (nb_below HX.out.1 hW0W)
     obtain ⟨q0, qz, ql⟩ := cell1 h2
     have hn0 : ((N : Int) == 0) = false := beq_eq_false_iff_ne.2 (by omega)
     have hn1 : ¬ N = 0 := by omega
     have hg1 : ¬ (64 : Int) < (dp : Int) := by omega
     have hg2 : ¬ 64 < dp := by omega
     have hg5 : decide ((64 : Int) < (dp : Int)) = false := decide_eq_false hg1
     have hg6 : decide ((N : Int) < (dp : Int)) = false := decide_eq_false (by omega)
     have hg3 : ¬ (N : Int) < (dp : Int) := by omega
     have hg4 : ¬ N < dp := by omega
     have HS := Lib.hid (fun W' (hBW : Below W.heap.size W W') => (⟨hBW, (hBW.cell el).trans e0, (hBW.cell el).trans e1, (hBW.cell el).trans e2, (hBW.cell el).trans e3, (hBW.cell el).trans e4, (hBW.cell el).trans e5, (hBW.cell ql).trans q0⟩ : (fun w' => Below W.heap.size W w' ∧ w'.cell? ⟨w.heap.size, 0, none⟩ = some (.int .i64 r.kind) ∧ w'.cell? ⟨w.heap.size, 1, none⟩ = some (.int .i64 r.fr) ∧ w'.cell? ⟨w.heap.size, 2, none⟩ = some (.int .i64 r.en) ∧ w'.cell? ⟨w.heap.size, 3, none⟩ = some (.int .i64 r.at_) ∧ w'.cell? ⟨w.heap.size, 4, none⟩ = some (.string r.name) ∧ w'.cell? ⟨w.heap.size, 5, none⟩ = some (.slice r.A r.n r.cap) ∧ w'.cell? ⟨w1.heap.size, 0, none⟩ = some (.int .i64 (N : Nat))) W'))
     have H2 := Lib.hid h2
     have HD := Lib.hid hd
     have HBW := Lib.hid (HB.out.trans (hW0W.mono (by omega)) : Below w.heap.size w W)
     have hwm : IntKind.i64.wrap m = m := by rw [IntKind.wrap_i64]; omega
     clear h1 h2 h3 hd hE hEA hrl hm hfile HKI hdN HDE hdp hNN hN e0 e1 e2 e3 e4 e5 ez el q0 qz
     gi_wp2_with fail
     have HKP := Lib.hid (fun W' (hBW : Below W.heap.size W W') => (show (fun w' => Below W.heap.size W w' ∧ w'.cell? ⟨w.heap.size, 0, none⟩ = some (.int .i64 r.kind) ∧ w'.cell? ⟨w.heap.size, 1, none⟩ = some (.int .i64 r.fr) ∧ w'.cell? ⟨w.heap.size, 2, none⟩ = some (.int .i64 r.en) ∧ w'.cell? ⟨w.heap.size, 3, none⟩ = some (.int .i64 r.at_) ∧ w'.cell? ⟨w.heap.size, 4, none⟩ = some (.string r.name) ∧ w'.cell? ⟨w.heap.size, 5, none⟩ = some (.slice r.A r.n r.cap) ∧ w'.cell? ⟨w1.heap.size, 0, none⟩ = some (.int .i64 (N : Nat))) W' from by exact HS.out W' hBW))
     refine zHI none rfl HKP fun hHeld => ?_
     refine zTk 0 (h := ?_)
     refine zTk 1 (h := ?_)
     refine zTk 2 (h := ?_)
     refine zTk 3 (h := ?_)
     refine zRd 4 (h := fun KK hKK => ?_)
     go_simp
     (refine ((zb HAD)).mono ?_; rintro e x1 ⟨rfl, hx1⟩)
     (try go_wp2_with fail)
     refine zKK hKK HKP fun hHeld2 => ?_; clear hKK KK hHeld; rename _ => hHeld
     refine zTk 5 (h := ?_)
     refine zTk 6 (h := ?_)
     refine zTk 7 (h := ?_)
     refine zTk 8 (h := ?_)
     refine zTk 10 (h := ?_)
     refine zRd 9 (h := fun KK hKK => ?_)
     go_simp
     (refine ((zb HAD)).mono ?_; rintro e x2 ⟨rfl, hx2⟩)
     (try go_wp2_with fail)
     refine zKK hKK HKP fun hHeld2 => ?_; clear hKK KK hHeld; rename _ => hHeld
     refine zTk 11 (h := ?_)
     refine zTk 12 (h := ?_)
     refine zDN ?_
     have HE := Lib.hid hHeld.1
     clear hHeld
     have hW0x : Below W0.heap.size W0 x2 := zT HW0W.out HE.out
     obtain ⟨e0, e1, e2, e3, e4, e5, ez, el⟩ := ncells (nb_below HX.out.1 hW0x)
     obtain ⟨q0, qz, ql⟩ := cell1 (nb_below H2.out HE.out)
     have hxs := HE.out.size
     have hws := HBW.out.size
     have hlm : (m % (N : Int)) ≤ 3000 := by have := Int.emod_lt_of_pos m (show (0 : Int) < (N : Int) by omega); omega
     have hlm0 : 0 ≤ (m % (N : Int)) := Int.emod_nonneg m (by omega)
     have HCT := Lib.hid (HCH.out (m % (N : Int)))
     have HCS := Lib.hid (show costT (wrapV t (m % (N : Int)) false).1 ≤ 3000 by
      have := HCO.out (m % (N : Int)); unfold dlt at this; split at this <;> omega)
     have HWA := Lib.hid (HAW.out (x2.alloc (.cells #[.int .i64 (m % (N : Int))] 3)) (zA hW0x) x2.heap.size (m % (N : Int)) (by omega) (new_at rfl) hlm0 hlm)
     have HDx := Lib.hid (nb_below HD.out HE.out)
     have hzW := hW0x.size
     gi_wp2_with fail
     generalize m % (N : Int) = left at *
     clear e0 e1 e2 e3 e4 e5 ez el q0 qz ql
     refine ⟨trivial, rfl, ?_⟩
     refine (callsIn_wide.2 HWA.out).mono ?_
     rintro e w3 ⟨⟨s, rfl, hns⟩, hl3, hbl3, hk3⟩
     dsimp only [RN.val]
     have hs3 := hbl3.size
     rw [World.size_alloc] at hs3
     have hb03 : Below W0.heap.size W0 w3 := (zA hW0x).trans (hbl3.mono (by omega))
     have hnm : NodeM w3 w3.heap.size (wrapV t left false).1 s := hns.toM (B := w3.heap.size) (fun b hb => by rw [World.size_alloc] at hb; omega)
     have hnm2 := hnm.boxed (Nat.le_refl _) (boxC s)
     have hG3 : LexG (w3.alloc (boxC s)) := HG.out.below (HB.out.trans ((zA hb03).mono (by omega)))
     have HC3 := Lib.hid (aCheck (wrapV t left false).1 s (w3.alloc (boxC s)) hG3 hnm2 HCS.out)
     have HD3 := Lib.hid (fun W (hb : Below (w3.alloc (boxC s)).heap.size (w3.alloc (boxC s)) W) => aDepth (wrapV t left false).1 s W (hnm2.after (Nat.le_refl _) hb) HCS.out)
     rw [HCT.out] at HC3
     have HB03 := Lib.hid (zA (o := boxC s) hb03)
     have HDD := Lib.hid (show (w3.alloc (boxC s)).heap[D]? = some (.deferred (some [])) from nb_alloc ((hbl3.block D (by omega)).trans (nb_alloc HDx.out)))
     have HX3 := Lib.hid (heap_alloc_new w3 (boxC s))
     have hD3 := (Array.getElem?_eq_some_iff.1 HDD.out).1
     have hne : D ≠ w.heap.size + 1 := by omega
     obtain ⟨dq, hdq⟩ : ∃ dq, depthV (wrapV t left false).1 = dq := ⟨_, rfl⟩
     rw [hdq] at HC3 HD3
     unfold RN.val at HC3 HD3
     obtain ⟨W9, hW9⟩ : ∃ W9, w3.alloc (boxC s) = W9 := ⟨_, rfl⟩
     rw [hW9] at HC3 HD3 HB03 HDD HX3 hD3
     clear hns hl3 hbl3 hk3 hnm hnm2 hG3 hdq hb03 hs3 HWA HCT HCS
     unfold boxC at hW9
     obtain ⟨t0, t1, t2, t3, t4, t5, tz, tl⟩ := ncells HX3.out
     by_cases hd : 64 < dq
     · rw [if_pos hd] at HC3
       have hd1 : ¬ (dq : Int) ≤ 64 := by omega
       have hd2 : ¬ dq ≤ 64 := by omega
       have hd3 : decide ((dq : Int) ≤ 64) = false := decide_eq_false hd1
       gi_wp2_with (refine ⟨trivial, rfl, ?_⟩; first | (gi_at_call 13; refine (callsIn_wide.2 HC3.out).mono ?_; rintro e y1 ⟨rfl, hy1⟩; clear t0 t1 t2 t3 t4 t5 tz tl; obtain ⟨t0, t1, t2, t3, t4, t5, tz, tl⟩ := ncells (nb_below HX3.out hy1)) | (gi_at_call 14; refine (callsIn_wide.2 (HD3.out _ hy1)).mono ?_; rintro e y2 ⟨rfl, hy2⟩) | (gi_at_call 12; refine (callsIn_wide.2 (HW.out _ (zT HB03.out (zT hy1 hy2)))).mono ?_; rintro e y3 ⟨rfl, hy3⟩; obtain ⟨u0, uz, ul⟩ := cell1 (nb_below HX.out.2 (zT HB03.out (zT (zT hy1 hy2) hy3)))))
       have hyy := zT (zT hy1 hy2) hy3
       refine end_cell rfl rfl (b := w.heap.size + 1) (set_heap (nb_below HX.out.2 (zT HB03.out hyy))) ((set_other hne).trans (nb_below HDD.out hyy)) ⟨rfl, ?_⟩
       exact ((HB.out.trans ((zT HB03.out hyy).mono (by omega))).setCell (p := ⟨w.heap.size + 1, 0, none⟩) (by simp) _).trans (below_putObj _ _ _ (by omega))
     · rw [if_neg hd] at HC3
       have hd1 : (dq : Int) ≤ 64 := by omega
       have hd2 : dq ≤ 64 := by omega
       have hd3 : decide ((dq : Int) ≤ 64) = true := decide_eq_true hd1
       gi_wp2_with (refine ⟨trivial, rfl, ?_⟩; first | (gi_at_call 13; refine (callsIn_wide.2 HC3.out).mono ?_; rintro e y1 ⟨rfl, hy1⟩; clear t0 t1 t2 t3 t4 t5 tz tl; obtain ⟨t0, t1, t2, t3, t4, t5, tz, tl⟩ := ncells (nb_below HX3.out hy1)) | (gi_at_call 14; refine (callsIn_wide.2 (HD3.out _ hy1)).mono ?_; rintro e y2 ⟨rfl, hy2⟩) | (gi_at_call 12; refine (callsIn_wide.2 (HW.out _ (zT HB03.out (zT hy1 hy2)))).mono ?_; rintro e y3 ⟨rfl, hy3⟩; obtain ⟨u0, uz, ul⟩ := cell1 (nb_below HX.out.2 (zT HB03.out (zT (zT hy1 hy2) hy3)))))
       have hyy := zT (zT hy1 hy2) hy3
       refine end_cell rfl rfl (b := w.heap.size + 1) (set_heap (nb_below HX.out.2 (zT HB03.out hyy))) ((set_other hne).trans (nb_below HDD.out hyy)) ⟨rfl, ?_⟩
       exact ((HB.out.trans ((zT HB03.out hyy).mono (by omega))).setCell (p := ⟨w.heap.size + 1, 0, none⟩) (by simp) _).trans (below_putObj _ _ _ (by omega))
  · have hne1 : (checkV nameV tokT t != 0) = true := by simp [hck]
    obtain ⟨cv, hcv⟩ : ∃ cv, checkV nameV tokT t = cv := ⟨_, rfl⟩
    rw [hcv] at HCK hne1 hck
    clear hcv
    unfold RN.val at HF HCK ⊢
    unfold boxC at hW0
    refine (callsIn_wide (n := 0)).1 (callsIn_of_wp_marks Tryz.func7 rfl trivial ?_)
    simp only [Tryz.ntmps7, List.size_toArray, List.length_cons, List.length_nil, Nat.reduceAdd, Nat.reduceSub, Array.replicate_succ, Array.replicate_zero, List.push_toArray, List.append_toArray, List.nil_append, List.cons_append]
    gi_wp2_with (refine ⟨trivial, rfl, ?_⟩; first | (gi_at_call 11; refine (callsIn_wide.2 (HF.out _ (Below.refl _ _))).mono ?_; rintro e wA ⟨rfl, hbA⟩; clear e0 e1 e2 e3 e4 e5 ez el b0 bz bl; obtain ⟨e0, e1, e2, e3, e4, e5, ez, el⟩ := ncells (nb_below HX.out.1 hbA)) | (gi_at_call 13; refine (callsIn_wide.2 (HCK.out _ hbA)).mono ?_; rintro e w1 ⟨rfl, hb1⟩) | (gi_at_call 12; refine (callsIn_wide.2 (HW.out _ (below_then hbA hb1))).mono ?_; rintro e wB ⟨rfl, hbB⟩; obtain ⟨q0, qz, ql⟩ := cell1 (nb_below HX.out.2 (below_then (below_then hbA hb1) hbB))))
    refine end_cell0 rfl rfl (b := w.heap.size + 1) (set_heap (nb_below HX.out.2 (below_then (below_then hbA hb1) hbB))) ⟨rfl, ?_⟩
    exact (below_then HB.out (below_then (below_then hbA hb1) hbB)).setCell (p := ⟨w.heap.size + 1, 0, none⟩) (by simp) _
end
end Go.Proofs.YtacdfjlncfidgaaGreatDoor
