/- Where each splice of a list stands behind the stable sort. -/
import Derived.Test.YtfflfbnnohlipaaRefSort
namespace Go.Proofs.Ytfflfbnnohlipaa
open Go.RowKit

def sp (S : List Spl) (k : Nat) : Spl := S[k]?.getD ⟨0, 0, ⟨#[]⟩⟩

structure Rank (l : List Spl) (t ix : Nat → Nat) : Prop where
  lt : ∀ i, i < l.length → t i < l.length
  back : ∀ i, i < l.length → ix (t i) = i
  low : ∀ r, r < l.length → ix r < l.length
  at_ : ∀ i, i < l.length → l[i]? = some (sp (sortB l) (t i))
  tells : ∀ p q, p < l.length → q < l.length → ix q < ix p → (aheadV (sp (sortB l) p) (sp (sortB l) q) = true ↔ p < q)

theorem ahead_asym {x y : Spl} (h : aheadV x y = true) : aheadV y x = false := by
  simp only [aheadV, Bool.or_eq_true, Bool.and_eq_true, decide_eq_true_eq, Bool.or_eq_false_iff, Bool.and_eq_false_iff, decide_eq_false_iff_not] at *
  omega
theorem ahead_le {x y z : Spl} (h : aheadV x y = true) (h' : aheadV z y = false) : aheadV x z = true := by
  simp only [aheadV, Bool.or_eq_true, Bool.and_eq_true, decide_eq_true_eq, Bool.or_eq_false_iff, Bool.and_eq_false_iff, decide_eq_false_iff_not] at *
  omega

theorem backK_ge (S : List Spl) (x : Spl) : ∀ k j, backK S x k ≤ j → j < k → aheadV x (sp S j) = true := by
  intro k
  induction k with
  | zero => intro j _ h; omega
  | succ k ih =>
    intro j h1 h2
    simp only [backK] at h1
    split at h1
    · rename_i hc
      by_cases e : j = k
      · rw [e]; exact hc
      · exact ih j h1 (by omega)
    · omega
theorem backK_stop (S : List Spl) (x : Spl) : ∀ k, backK S x k = 0 ∨ aheadV x (sp S (backK S x k - 1)) = false := by
  intro k
  induction k with
  | zero => exact .inl rfl
  | succ k ih =>
    simp only [backK]
    split
    · exact ih
    · rename_i hc
      exact .inr (by simpa [sp] using hc)

theorem sp_ins (S : List Spl) (x : Spl) (r : Nat) (hr : r < S.length + 1) :
    sp (insB S x) r = if r < backK S x S.length then sp S r else if r = backK S x S.length then x else sp S (r - 1) := by
  have hb := backK_le S x S.length
  have htl : (S.take (backK S x S.length)).length = backK S x S.length := by rw [List.length_take]; omega
  unfold sp insB
  split
  · rename_i h
    rw [List.getElem?_append_left (by omega), List.getElem?_take_of_lt h]
  · split
    · rename_i h
      subst h
      rw [List.getElem?_append_right (by omega), htl, Nat.sub_self]
      rfl
    · rename_i h1 h2
      rw [List.getElem?_append_right (by omega), htl]
      obtain ⟨d, hd⟩ : ∃ d, r - backK S x S.length = d + 1 := ⟨r - backK S x S.length - 1, by omega⟩
      rw [hd, List.getElem?_cons_succ, List.getElem?_drop, show backK S x S.length + d = r - 1 by omega]

theorem Rank.sorted {l : List Spl} {t ix : Nat → Nat} (h : Rank l t ix) {p q : Nat} (hp : p < q) (hq : q < l.length) : aheadV (sp (sortB l) q) (sp (sortB l) p) = false := by
  rcases Nat.lt_trichotomy (ix p) (ix q) with c | c | c
  · cases ha : aheadV (sp (sortB l) q) (sp (sortB l) p)
    · rfl
    · have := (h.tells q p hq (by omega) c).1 ha; omega
  · by_cases hz : aheadV (sp (sortB l) q) (sp (sortB l) p) = true
    · exfalso
      have inj : ∀ a b, a < l.length → b < l.length → ix a = ix b → a = b := by
        have surj : ∀ m, (∀ (f : Nat → Nat), (∀ i, i < m → f i < m) → (∀ i j, i < m → j < m → f i = f j → i = j) → ∀ r, r < m → ∃ i, i < m ∧ f i = r) := by
          intro m
          induction m with
          | zero => intro f _ _ r hr; omega
          | succ m ih =>
            intro f hf hi r hr
            -- the place of m under f, if any, is exchanged away
            by_cases hm : ∃ k, k < m + 1 ∧ f k = m
            · obtain ⟨k, hk, hkm⟩ := hm
              let f' := fun i => if i = k then f m else f i
              have h1 : ∀ i, i < m → f' i < m := by
                intro i him
                have hne : f' i ≠ m := by
                  simp only [f']
                  split
                  · rename_i e; intro e2; have := hi m k (by omega) hk (by omega); omega
                  · rename_i e; intro e2; have := hi i k (by omega) hk (by omega); omega
                have hlt : f' i < m + 1 := by
                  simp only [f']; split
                  · exact hf _ (by omega)
                  · exact hf _ (by omega)
                omega
              have h2 : ∀ i j, i < m → j < m → f' i = f' j → i = j := by
                intro i j hi' hj' e
                simp only [f'] at e
                split at e <;> split at e
                · omega
                · have := hi m j (by omega) (by omega) e; omega
                · have := hi i m (by omega) (by omega) e; omega
                · exact hi i j (by omega) (by omega) e
              by_cases hrm : r = m
              · exact ⟨k, hk, by omega⟩
              · obtain ⟨i, him, e⟩ := ih f' h1 h2 r (by omega)
                simp only [f'] at e
                split at e
                · exact ⟨m, by omega, e⟩
                · exact ⟨i, by omega, e⟩
            · exfalso
              have h1 : ∀ i, i < m → f i < m := fun i him => by
                have := hf i (by omega)
                have : f i ≠ m := fun e => hm ⟨i, by omega, e⟩
                omega
              obtain ⟨i, him, e⟩ := ih f h1 (fun i j a b => hi i j (by omega) (by omega)) (f m) (by have := hf m (by omega); have : f m ≠ m := fun e => hm ⟨m, by omega, e⟩; omega)
              have := hi i m (by omega) (by omega) e
              omega
        intro a b ha hb e
        have ht := surj l.length t h.lt (fun i j hi hj e => by rw [← h.back i hi, ← h.back j hj, e])
        obtain ⟨i, hi, ei⟩ := ht a ha
        obtain ⟨j, hj, ej⟩ := ht b hb
        rw [← ei, ← ej, h.back i hi, h.back j hj] at e
        rw [← ei, ← ej, e]
      have := inj p q (by omega) hq c
      omega
    · simpa using hz
  · exact ahead_asym ((h.tells p q (by omega) hq c).2 hp)

theorem rank_ex (l : List Spl) : ∃ t ix, Rank l t ix := by
  suffices ∀ n, ∀ l : List Spl, l.length = n → ∃ t ix, Rank l t ix from this _ l rfl
  intro n
  induction n with
  | zero => intro l hl; exact ⟨id, id, ⟨fun i h => by omega, fun i h => by omega, fun i h => by omega, fun i h => by omega, fun i _ h => by omega⟩⟩
  | succ n ih =>
    intro l hl
    obtain ⟨m, x, rfl⟩ : ∃ m x, l = m ++ [x] := by
      rcases List.eq_nil_or_concat l with h | ⟨m, x, h⟩
      · rw [h] at hl; simp at hl
      · exact ⟨m, x, by simpa using h⟩
    simp at hl
    obtain ⟨t, ix, h⟩ := ih m hl
    have hsl := sortB_len m
    obtain ⟨pos, hpos⟩ : ∃ pos, backK (sortB m) x (sortB m).length = pos := ⟨_, rfl⟩
    have hle : pos ≤ m.length := by rw [← hpos, ← hsl]; exact backK_le _ _ _
    have hsp : ∀ r, r < m.length + 1 → sp (sortB (m ++ [x])) r = if r < pos then sp (sortB m) r else if r = pos then x else sp (sortB m) (r - 1) := by
      intro r hr
      rw [sortB_snoc, sp_ins _ _ _ (by omega), hpos]
    have hge : ∀ j, pos ≤ j → j < m.length → aheadV x (sp (sortB m) j) = true := fun j a b => backK_ge _ _ _ _ (by rw [hpos]; exact a) (by omega)
    have hlo : ∀ j, j < pos → aheadV x (sp (sortB m) j) = false := by
      intro j hj
      have hst := backK_stop (sortB m) x (sortB m).length
      rw [hpos] at hst
      rcases hst with hst | hst
      · omega
      · by_cases e : j = pos - 1
        · rw [e]; exact hst
        · cases ha : aheadV x (sp (sortB m) j)
          · rfl
          · rw [ahead_le ha (h.sorted (p := j) (q := pos - 1) (by omega) (by omega))] at hst; cases hst
    refine ⟨fun i => if i < m.length then (if t i < pos then t i else t i + 1) else pos, fun r => if r < pos then ix r else if r = pos then m.length else ix (r - 1), ⟨?_, ?_, ?_, ?_, ?_⟩⟩
    · intro i hi
      simp at hi ⊢
      split
      · rename_i c; have := h.lt i c; split <;> omega
      · omega
    · intro i hi
      simp at hi
      by_cases c : i < m.length
      · have := h.lt i c
        have hb := h.back i c
        simp only [c, if_true]
        by_cases c2 : t i < pos
        · simp only [c2, if_true]; exact hb
        · simp only [c2, if_false]
          rw [if_neg (by omega), if_neg (by omega)]
          simpa using hb
      · simp only [c, if_false]
        simp
        omega
    · intro r hr
      simp at hr ⊢
      split
      · have := h.low r (by omega); omega
      · split
        · omega
        · have := h.low (r - 1) (by omega); omega
    · intro i hi
      simp at hi
      by_cases c : i < m.length
      · have := h.lt i c
        rw [List.getElem?_append_left c, h.at_ i c]
        simp only [c, if_true]
        by_cases c2 : t i < pos
        · simp only [c2, if_true]; rw [hsp _ (by omega), if_pos c2]
        · simp only [c2, if_false]; rw [hsp _ (by omega), if_neg (by omega), if_neg (by omega)]; rfl
      · have : i = m.length := by omega
        subst this
        simp only [c, if_false]
        rw [hsp _ (by omega), if_neg (by omega), if_pos rfl]
        simp
    · intro p q hp hq
      simp only [List.length_append, List.length_cons, List.length_nil, Nat.zero_add] at hp hq
      rw [hsp p hp, hsp q hq]
      by_cases p1 : p < pos <;> by_cases q1 : q < pos
      · simp only [p1, q1, if_true]
        exact h.tells p q (by omega) (by omega)
      · simp only [p1, q1, if_true, if_false]
        by_cases q2 : q = pos
        · simp only [q2, if_true]
          intro hh; have := h.low p (by omega); omega
        · simp only [q2, if_false]
          intro hh
          rw [h.tells p (q - 1) (by omega) (by omega) hh]
          omega
      · simp only [p1, q1, if_true, if_false]
        by_cases p2 : p = pos
        · simp only [p2, if_true]
          intro _
          rw [hlo q q1]; simp; omega
        · simp only [p2, if_false]
          intro hh
          rw [h.tells (p - 1) q (by omega) (by omega) hh]
          omega
      · simp only [p1, q1, if_false]
        by_cases p2 : p = pos <;> by_cases q2 : q = pos
        · simp only [p2, q2, if_true]; intro hh; omega
        · simp only [p2, q2, if_true, if_false]
          intro _
          rw [hge (q - 1) (by omega) (by omega)]; simp; omega
        · simp only [p2, q2, if_true, if_false]
          intro hh; have := h.low (p - 1) (by omega); omega
        · simp only [p2, q2, if_false]
          intro hh
          rw [h.tells (p - 1) (q - 1) (by omega) (by omega) hh]
          omega
end Go.Proofs.Ytfflfbnnohlipaa
