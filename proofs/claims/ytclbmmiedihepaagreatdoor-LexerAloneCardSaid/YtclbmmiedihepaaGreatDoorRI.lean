/- What the tokens of a text are, plainly: in order, the same when written again, alone. Of no program. -/
import Derived.Test.YtclbmmiedihepaaGreatDoorRD
namespace Go.Proofs.YtclbmmiedihepaaGreatDoor
set_option linter.unusedVariables false
set_option linter.unusedSimpArgs false
theorem lexV_nil {eF : BL → Int} {L : BL} {at_ : Nat} {acc : List Tk} {last : Option Tk} (h : L.drop at_ = []) : lexV eF L at_ acc last = .ok (closeV acc last) := by
 rw [lexV]; split
 · rfl
 · rename_i c r h2; rw [h] at h2; cases h2
theorem lexV_cons {eF : BL → Int} {L : BL} {at_ : Nat} {acc : List Tk} {last : Option Tk} {c : UInt8} {r : BL} (h : L.drop at_ = c :: r) : lexV eF L at_ acc last =
  if isBl c then lexV eF L (at_ + 1) acc last
  else if c.toNat = 10 then lexV eF L (at_ + 1) (closeV acc last) none
  else if c.toNat = 47 ∧ r.head? = some 47 then lexV eF L (at_ + 1 + comN r) acc last
  else if (takeV eF (c :: r)).1 = 0 ∧ 0 < (takeV eF (c :: r)).2.2 then
   lexV eF L (at_ + (takeV eF (c :: r)).2.2) (acc ++ [⟨(takeV eF (c :: r)).2.1, (c :: r).take (takeV eF (c :: r)).2.2, at_, at_ + (takeV eF (c :: r)).2.2⟩]) (some ⟨(takeV eF (c :: r)).2.1, (c :: r).take (takeV eF (c :: r)).2.2, at_, at_ + (takeV eF (c :: r)).2.2⟩)
  else .error (at_, (takeV eF (c :: r)).1) := by
 rw [lexV]; split
 · rename_i h2; rw [h] at h2; cases h2
 · rename_i c' r' h2
   rw [h] at h2; cases h2
   split
   · rfl
   · split
     · rfl
     · split
       · rfl
       · split
         · rfl
         · rfl
theorem drop_len {L : BL} {k : Nat} {c : UInt8} {r : BL} (h : L.drop k = c :: r) : k + 1 + r.length = L.length ∧ L.drop (k + 1) = r := by
 constructor
 · have := congrArg List.length h
   rw [List.length_drop, List.length_cons] at this
   omega
 · rw [← List.drop_drop, h]; rfl
theorem speltZ {c : UInt8} {r : BL} : speltN (c :: r) = 0 ↔ isLet c = false := by
 have e : speltN (c :: r) = if isLet c then ((c :: r).takeWhile isLD).length else 0 := rfl
 rw [e]
 cases hc : isLet c with
 | false => simp
 | true =>
  have hd : isLD c = true := by unfold isLD; rw [hc]; rfl
  simp [hd]
theorem digN_zero {c : UInt8} {r : BL} : digN (c :: r) = 0 ↔ isDig c = false := by
 unfold digN
 cases hc : isDig c <;> simp [hc]
theorem num_zero {L : BL} : (numN L).2 = 0 ↔ digN L = 0 := by
 unfold numN
 by_cases h : digN L = 0
 · rw [if_pos (.inl h)]
 · split
   · exact Iff.rfl
   · constructor <;> intro h2 <;> (try simp only at h2) <;> omega
theorem mark_pre {m L : BL} (h : m.isPrefixOf L = true) : ∃ r, L = m ++ r := by
 obtain ⟨r, hr⟩ := List.isPrefixOf_iff_prefix.1 h
 exact ⟨r, hr.symm⟩
theorem mark_heads (m : BL) (hm : m ∈ marks2 ++ marks1) : ∃ c r, m = c :: r ∧ c.toNat ≠ 34 ∧ c.toNat ≠ 59 ∧ isLet c = false ∧ isDig c = false := by
 have h : ∀ m ∈ marks2 ++ marks1, m.head?.any (fun c => decide (c.toNat ≠ 34) && decide (c.toNat ≠ 59) && !isLet c && !isDig c) = true := by decide
 have := h m hm
 cases m with
 | nil => simp at this
 | cons c r =>
  simp only [List.head?_cons, Option.any_some, Bool.and_eq_true, decide_eq_true_eq, Bool.not_eq_true'] at this
  exact ⟨c, r, rfl, this.1.1.1, this.1.1.2, this.1.2, this.2⟩
theorem marks_no32 (m : BL) (hm : m ∈ marks2) : ∃ a b, m = [a, b] ∧ a ≠ 32 ∧ b ≠ 32 := by
 have h : ∀ m ∈ marks2, m.length = 2 ∧ (m.contains 32) = false := by decide
 obtain ⟨h1, h2⟩ := h m hm
 match m, h1 with
 | [a, b], _ =>
  refine ⟨a, b, rfl, ?_, ?_⟩
  · intro e; subst e; simp at h2
  · intro e; subst e; simp at h2
theorem marks1_one (m : BL) (hm : m ∈ marks1) : ∃ a, m = [a] ∧ a ≠ 32 := by
 have h : ∀ m ∈ marks1, m.length = 1 ∧ (m.contains 32) = false := by decide
 obtain ⟨h1, h2⟩ := h m hm
 match m, h1 with
 | [a], _ => exact ⟨a, rfl, by intro e; subst e; simp at h2⟩
theorem mark_blank {L z : BL} (h : 0 < markN L) : markN (L.take (markN L) ++ 32 :: z) = markN L ∧ (L.take (markN L)).length = markN L ∧ ∃ m ∈ marks2 ++ marks1, L.take (markN L) = m := by
 unfold markN at h ⊢
 by_cases h2 : marks2.any (fun m => m.isPrefixOf L) = true
 · rw [if_pos h2]
   obtain ⟨m, hm, hp⟩ := List.any_eq_true.1 h2
   obtain ⟨r, rfl⟩ := mark_pre hp
   obtain ⟨a, b, rfl, _, _⟩ := marks_no32 m hm
   refine ⟨?_, rfl, [a, b], List.mem_append_left _ hm, rfl⟩
   rw [if_pos]
   exact List.any_eq_true.2 ⟨[a, b], hm, by simp [List.isPrefixOf]⟩
 · rw [if_neg h2] at h ⊢
   by_cases h1 : marks1.any (fun m => m.isPrefixOf L) = true
   · rw [if_pos h1]
     obtain ⟨m, hm, hp⟩ := List.any_eq_true.1 h1
     obtain ⟨r, rfl⟩ := mark_pre hp
     obtain ⟨a, rfl, _⟩ := marks1_one m hm
     refine ⟨?_, rfl, [a], List.mem_append_right _ hm, rfl⟩
     rw [if_neg, if_pos]
     · exact List.any_eq_true.2 ⟨[a], hm, by simp [List.isPrefixOf]⟩
     · intro h3
       obtain ⟨m2, hm2, hp2⟩ := List.any_eq_true.1 h3
       obtain ⟨x, y, rfl, _, hy⟩ := marks_no32 m2 hm2
       simp [List.isPrefixOf] at hp2
       exact hy hp2.2
   · rw [if_neg h1] at h; omega
theorem quotV_head {c : UInt8} {r : BL} (h : c.toNat ≠ 34) : quotV (c :: r) = none := if_neg h
/-- Is a text made of code points? -/
def okV (L : BL) : Prop := brkV L 0 = none
theorem brk_shift (L : BL) : ∀ (f k j : Nat), L.length - (k + j) ≤ f → (brkV L (k + j) = none ↔ brkV (L.drop k) j = none) := by
 intro f
 induction f with
 | zero =>
  intro k j h
  rw [brkV_end (by omega), brkV_end (by rw [List.length_drop]; omega)]
 | succ f ih =>
  intro k j h
  by_cases hlt : k + j < L.length
  · have hd : (L.drop k).drop j = L.drop (k + j) := List.drop_drop
    by_cases h0 : stepV (L.drop (k + j)) = 0
    · rw [brkV_zero hlt h0, brkV_zero (by rw [List.length_drop]; omega) (by rw [hd]; exact h0)]
      constructor <;> intro h <;> cases h
    · have e1 := brkV_step hlt h0
      have e2 := brkV_step (L := L.drop k) (k := j) (by rw [List.length_drop]; omega) (by rw [hd]; exact h0)
      rw [e1, e2, hd, Nat.add_assoc]
      exact ih k _ (by omega)
  · rw [brkV_end (by omega), brkV_end (by rw [List.length_drop]; omega)]
theorem okV_drop {L : BL} {k : Nat} : brkV L k = none ↔ okV (L.drop k) := by
 have := brk_shift L _ k 0 (Nat.le_refl _)
 simpa [okV] using this
theorem okV_nil : okV [] := brkV_end (Nat.le_refl _)
theorem okV_step {L : BL} (h : L ≠ []) : okV L ↔ stepV L ≠ 0 ∧ okV (L.drop (stepV L)) := by
 have hlt : 0 < L.length := List.length_pos_iff.2 h
 by_cases h0 : stepV L = 0
 · have : brkV L 0 = some 0 := brkV_zero hlt (by simpa using h0)
   constructor
   · intro e; unfold okV at e; rw [this] at e; cases e
   · intro e; exact absurd h0 e.1
 · have : brkV L 0 = brkV L (0 + stepV L) := by have := brkV_step hlt (by simpa using h0); simpa using this
   unfold okV
   rw [this, Nat.zero_add, okV_drop]
   exact ⟨fun e => ⟨h0, e⟩, fun e => e.2⟩
theorem ascii_step1 {c : UInt8} {r : BL} (h : c.toNat < 128) : stepV (c :: r) = 1 := if_pos h
theorem okV_cons {c : UInt8} {r : BL} (h : c.toNat < 128) : okV (c :: r) ↔ okV r := by
 rw [okV_step (by simp), ascii_step1 h]
 simp
theorem okV_ascii {x : BL} (h : ∀ c ∈ x, c.toNat < 128) : okV x := by
 induction x with
 | nil => exact okV_nil
 | cons c x ih => exact (okV_cons (h c (by simp))).2 (ih (fun d hd => h d (by simp [hd])))
structure NameIs (L : BL) : Prop where
 ne : L ≠ []
 sp : speltN L = L.length
 le : L.length ≤ 40
 un : L ≠ [95]
 rs : hasB resW L = false
theorem takeWA {p : UInt8 → Bool} {L : BL} (h : (L.takeWhile p).length = L.length) : ∀ c ∈ L, p c = true := by
 induction L with
 | nil => simp
 | cons a L ih =>
  rw [List.takeWhile_cons] at h
  split at h
  · rename_i ha
    intro c hc
    rcases List.mem_cons.1 hc with rfl | hc
    · exact ha
    · exact ih (by simpa using h) c hc
  · simp at h
theorem takeW_of {p : UInt8 → Bool} {L : BL} (h : ∀ c ∈ L, p c = true) : (L.takeWhile p).length = L.length := by
 induction L with
 | nil => rfl
 | cons a L ih => rw [List.takeWhile_cons, if_pos (h a (by simp)), List.length_cons, ih (fun c hc => h c (by simp [hc])), List.length_cons]
theorem spelt_all {L : BL} (hne : L ≠ []) : speltN L = L.length ↔ ((∃ c r, L = c :: r ∧ isLet c = true) ∧ ∀ c ∈ L, isLD c = true) := by
 cases L with
 | nil => exact absurd rfl hne
 | cons c r =>
  have e : speltN (c :: r) = if isLet c then ((c :: r).takeWhile isLD).length else 0 := rfl
  rw [e]
  constructor
  · intro h
    split at h
    · rename_i hc; exact ⟨⟨c, r, rfl, hc⟩, takeWA h⟩
    · simp at h
  · rintro ⟨⟨c', r', hcr, hc⟩, h⟩
    cases hcr
    rw [if_pos hc]; exact takeW_of h
theorem NameIs.tk {L : BL} (h : NameIs L) (eF : BL → Int) : takeV eF L = (0, 1, L.length) := by
 have hp : 0 < L.length := List.length_pos_iff.2 h.ne
 unfold takeV
 rw [h.sp, if_pos hp, List.take_of_length_le (Nat.le_refl _)]
 have hr : resW.contains L = false := h.rs
 rw [hr, if_neg (by simp), if_neg (by have := h.le; omega), if_neg h.un]
theorem let_hd {c : UInt8} (h : isLet c = true) : isBl c = false ∧ c.toNat ≠ 10 ∧ c.toNat ≠ 47 := by
 simp only [isLet, Bool.or_eq_true, Bool.and_eq_true, decide_eq_true_eq] at h
 refine ⟨?_, by omega, by omega⟩
 unfold isBl
 simp only [Bool.or_eq_false_iff, decide_eq_false_iff_not]
 omega
theorem NameIs.hd {L : BL} (h : NameIs L) : ∃ c r, L = c :: r ∧ isBl c = false ∧ c.toNat ≠ 10 ∧ c.toNat ≠ 47 := by
 obtain ⟨⟨c, r, e, hc⟩, _⟩ := (spelt_all h.ne).1 h.sp
 exact ⟨c, r, e, (let_hd hc).1, (let_hd hc).2.1, (let_hd hc).2.2⟩
/-- A string's literal, counted. -/
def quotF : Nat → BL → Nat → BL → Option (Option (BL × Nat))
 | 0, _, _, _ => none
 | f + 1, L, i, b => match L[i]? with
  | none => some none
  | some c => if c.toNat = 34 then some (some (b, i + 1)) else if c.toNat < 32 ∨ c.toNat = 127 then some none else if c.toNat = 92 then
    (match escV (L.drop (i + 1)) with
    | none => some none
    | some (x, n) => quotF f L (i + 1 + n) (b ++ [x]))
   else quotF f L (i + 1) (b ++ [c])
theorem quotF_is : ∀ (f : Nat) (L : BL) (i : Nat) (b : BL) (r : Option (BL × Nat)), quotF f L i b = some r → quotAt L i b = r
 | 0, _, _, _, _, h => by cases h
 | f + 1, L, i, b, r, h => by
  unfold quotF at h
  by_cases hlt : i < L.length
  · rw [List.getElem?_eq_getElem hlt] at h
    rw [quotAt, dif_pos hlt]
    simp only at h
    split at h
    · rename_i q; rw [if_pos q]; exact Option.some.inj h
    · rename_i q
      rw [if_neg q]
      split at h
      · rename_i q; rw [if_pos q]; exact Option.some.inj h
      · rename_i q
        rw [if_neg q]
        split at h
        · rename_i q
          rw [if_pos q]
          cases he : escV (L.drop (i + 1)) with
          | none => rw [he] at h; exact Option.some.inj h
          | some xn =>
           obtain ⟨x, n⟩ := xn
           rw [he] at h
           exact quotF_is f L _ _ r h
        · rename_i q
          rw [if_neg q]
          exact quotF_is f L _ _ r h
  · rw [List.getElem?_eq_none (by omega)] at h
    rw [quotAt_end (by omega)]; exact Option.some.inj h
/-- A token, counted; and the float literals that were asked for. -/
def takeF (eF : BL → Int) (f : Nat) (L : BL) : Option ((Int × Nat × Nat) × List BL) :=
 if 0 < speltN L then
  some ((if resW.contains (L.take (speltN L)) then (0, 2, speltN L) else if 40 < speltN L then (3, 1, speltN L) else if L.take (speltN L) = [95] then (9, 1, speltN L) else (0, 1, speltN L)), [])
 else if 0 < (numN L).2 then
  (if (numN L).1 = 3 then some ((errI (L.take (numN L).2), (numN L).1, (numN L).2), []) else some ((eF (L.take (numN L).2), (numN L).1, (numN L).2), [L.take (numN L).2]))
 else match (match L with | [] => some none | c :: _ => if c.toNat = 34 then quotF f L 1 [] else some none) with
  | none => none
  | some (some (v, n)) => some (((if 4096 < v.length then 3 else 0), 5, n), [])
  | some none => some ((if L.head? = some 59 then (0, 7, 1) else if 0 < markN L then (0, 6, markN L) else (4, 0, 0)), [])
theorem takeF_is {eF eG : BL → Int} {f : Nat} {L : BL} {r : Int × Nat × Nat} {q : List BL} (h : takeF eG f L = some (r, q)) (hq : ∀ x ∈ q, eF x = eG x) : takeV eF L = r := by
 unfold takeF at h
 unfold takeV
 split at h
 · rename_i h0; rw [if_pos h0]; exact congrArg Prod.fst (Option.some.inj h)
 · rename_i h0
   rw [if_neg h0]
   split at h
   · rename_i h1
     rw [if_pos h1]
     split at h
     · rename_i h2; rw [if_pos h2]; exact congrArg Prod.fst (Option.some.inj h)
     · rename_i h2
       rw [if_neg h2]
       have e1 := congrArg Prod.fst (Option.some.inj h)
       have e2 := congrArg Prod.snd (Option.some.inj h)
       simp only at e1 e2
       rw [← e1, hq _ (by rw [← e2]; simp)]
   · rename_i h1
     rw [if_neg h1]
     have hv : ∀ o, (match L with | [] => some none | c :: _ => if c.toNat = 34 then quotF f L 1 [] else some none) = some o → quotV L = o := by
      intro o ho
      cases L with
      | nil => exact Option.some.inj ho
      | cons c l =>
       unfold quotV
       simp only at ho ⊢
       split at ho
       · rename_i hc; rw [if_pos hc]; exact quotF_is _ _ _ _ _ ho
       · rename_i hc; rw [if_neg hc]; exact Option.some.inj ho
     split at h
     · cases h
     · rename_i v n ho
       rw [hv _ ho]
       exact congrArg Prod.fst (Option.some.inj h)
     · rename_i ho
       rw [hv _ ho]
       exact congrArg Prod.fst (Option.some.inj h)
/-- The tokens of what is left of a text, counted. -/
def lexF (eF : BL → Int) : Nat → BL → Nat → List Tk → Option Tk → Option (Except (Nat × Int) (List Tk) × List BL)
 | 0, _, _, _, _ => none
 | f + 1, M, at_, acc, last => match M with
  | [] => some (.ok (closeV acc last), [])
  | c :: r =>
   if isBl c then lexF eF f r (at_ + 1) acc last
   else if c.toNat = 10 then lexF eF f r (at_ + 1) (closeV acc last) none
   else if c.toNat = 47 ∧ r.head? = some 47 then lexF eF f (r.drop (comN r)) (at_ + 1 + comN r) acc last
   else match takeF eF f M with
    | none => none
    | some ((e, k, n), q) => if e = 0 ∧ 0 < n then
      (match lexF eF f (M.drop n) (at_ + n) (acc ++ [⟨k, M.take n, at_, at_ + n⟩]) (some ⟨k, M.take n, at_, at_ + n⟩) with
      | none => none
      | some (x, q2) => some (x, q ++ q2))
     else some (.error (at_, e), q)
theorem lexF_is {eF eG : BL → Int} {L : BL} : ∀ (f : Nat) (M : BL) (at_ : Nat) (acc : List Tk) (last : Option Tk) (r : Except (Nat × Int) (List Tk)) (q : List BL), lexF eG f M at_ acc last = some (r, q) → (∀ x ∈ q, eF x = eG x) → L.drop at_ = M →
  lexV eF L at_ acc last = r
 | 0, _, _, _, _, _, _, h, _, _ => by cases h
 | f + 1, M, at_, acc, last, r, q, h, hq, hd => by
  cases M with
  | nil =>
   rw [lexV_nil hd]; exact congrArg Prod.fst (Option.some.inj h)
  | cons c l =>
   obtain ⟨hlen, hdr⟩ := drop_len hd
   rw [lexV_cons hd]
   unfold lexF at h
   simp only at h
   split at h
   · rename_i h1; rw [if_pos h1]; exact lexF_is f l _ _ _ r q h hq hdr
   · rename_i h1
     rw [if_neg h1]
     split at h
     · rename_i h2; rw [if_pos h2]; exact lexF_is f l _ _ _ r q h hq hdr
     · rename_i h2
       rw [if_neg h2]
       split at h
       · rename_i h3; rw [if_pos h3]; exact lexF_is f _ _ _ _ r q h hq (by rw [← List.drop_drop, hdr])
       · rename_i h3
         rw [if_neg h3]
         cases ht : takeF eG f (c :: l) with
         | none => rw [ht] at h; cases h
         | some x =>
          obtain ⟨⟨e, k, n⟩, q1⟩ := x
          rw [ht] at h
          simp only at h
          split at h
          · rename_i h4
            cases hx : lexF eG f ((c :: l).drop n) (at_ + n) (acc ++ [⟨k, (c :: l).take n, at_, at_ + n⟩]) (some ⟨k, (c :: l).take n, at_, at_ + n⟩) with
            | none => rw [hx] at h; cases h
            | some y =>
             obtain ⟨x, q2⟩ := y
             rw [hx] at h
             have e1 := congrArg Prod.fst (Option.some.inj h)
             have e2 := congrArg Prod.snd (Option.some.inj h)
             simp only at e1 e2
             have htk := takeF_is ht (eF := eF) (fun x hx => hq x (by rw [← e2]; exact List.mem_append_left _ hx))
             rw [htk, if_pos h4, ← e1]
             exact lexF_is f _ _ _ _ x q2 hx (fun x hx => hq x (by rw [← e2]; exact List.mem_append_right _ hx)) (by rw [← List.drop_drop, hd])
          · rename_i h4
            have e1 := congrArg Prod.fst (Option.some.inj h)
            have e2 := congrArg Prod.snd (Option.some.inj h)
            simp only at e1 e2
            have htk := takeF_is ht (eF := eF) (fun x hx => hq x (by rw [← e2]; exact hx))
            rw [htk, if_neg h4, ← e1]
/-- Code points, counted. -/
def brkF : Nat → BL → Nat → Option (Option Nat)
 | 0, _, _ => none
 | f + 1, L, k => match L with
  | [] => some none
  | c :: r => if stepV (c :: r) = 0 then some (some k) else brkF f ((c :: r).drop (stepV (c :: r))) (k + stepV (c :: r))
theorem brkF_is {L : BL} : ∀ (f k : Nat) (M : BL) (r : Option Nat), brkF f M k = some r → L.drop k = M → brkV L k = r
 | 0, _, _, _, h, _ => by cases h
 | f + 1, k, M, r, h, hd => by
  cases M with
  | nil => rw [brkV_end (List.drop_eq_nil_iff.1 hd)]; exact Option.some.inj h
  | cons c l =>
   obtain ⟨hlen, hdr⟩ := drop_len hd
   unfold brkF at h
   simp only at h
   split at h
   · rename_i h0; rw [brkV_zero (by omega) (by rw [hd]; exact h0)]; exact Option.some.inj h
   · rename_i h0
     rw [brkV_step (by omega) (by rw [hd]; exact h0), hd]
     exact brkF_is f _ _ r h (by rw [← List.drop_drop, hd])
end Go.Proofs.YtclbmmiedihepaaGreatDoor
