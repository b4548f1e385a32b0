namespace Go.Proofs.Ytfflfbnnohlipaa

/-- Ascending from a to b. -/
def Asc (t : Nat → Nat) (a b : Nat) : Prop := ∀ i j, a ≤ i → i < j → j < b → t i < t j
/-- What stands from a to b behind stood there ahead; all else stays. -/
def Img (t t' : Nat → Nat) (a b : Nat) : Prop := (∀ k, a ≤ k → k < b → ∃ k', a ≤ k' ∧ k' < b ∧ t' k = t k') ∧ ∀ k, k < a ∨ b ≤ k → t' k = t k
theorem Img.refl (t : Nat → Nat) (a b : Nat) : Img t t a b := ⟨fun k h1 h2 => ⟨k, h1, h2, rfl⟩, fun _ _ => rfl⟩
theorem Img.trans {t u v : Nat → Nat} {a b : Nat} (h : Img t u a b) (h' : Img u v a b) : Img t v a b := by
  refine ⟨fun k h1 h2 => ?_, fun k hk => (h'.2 k hk).trans (h.2 k hk)⟩
  obtain ⟨k1, a1, b1, e1⟩ := h'.1 k h1 h2
  obtain ⟨k2, a2, b2, e2⟩ := h.1 k1 a1 b1
  exact ⟨k2, a2, b2, e1.trans e2⟩
theorem Img.wide {t u : Nat → Nat} {a b c d : Nat} (h : Img t u a b) (h1 : c ≤ a) (h2 : b ≤ d) : Img t u c d := by
  refine ⟨fun k a1 b1 => ?_, fun k hk => h.2 k (by omega)⟩
  by_cases hk : a ≤ k ∧ k < b
  · obtain ⟨k1, a2, b2, e⟩ := h.1 k hk.1 hk.2
    exact ⟨k1, by omega, by omega, e⟩
  · exact ⟨k, a1, b1, h.2 k (by omega)⟩

/-- Two places exchanged. -/
def swp (t : Nat → Nat) (i j : Nat) : Nat → Nat := fun k => if k = i then t j else if k = j then t i else t k
theorem swp_img (t : Nat → Nat) {i j a b : Nat} (h1 : a ≤ i) (h2 : i < b) (h3 : a ≤ j) (h4 : j < b) : Img t (swp t i j) a b := by
  refine ⟨fun k k1 k2 => ?_, fun k hk => ?_⟩
  · unfold swp
    split
    · exact ⟨j, h3, h4, rfl⟩
    · split
      · exact ⟨i, h1, h2, rfl⟩
      · exact ⟨k, k1, k2, rfl⟩
  · unfold swp
    rw [if_neg (by omega), if_neg (by omega)]

/-- The order of ranks, as the elements' places from before and a test of the keys tell it. -/
structure Ranks (n : Nat) (lt : Nat → Nat → Bool) (ix : Nat → Nat) : Prop where
  tells : ∀ p q, p < n → q < n → ix q < ix p → (lt p q = true ↔ p < q)

/-- Behind the insertion's round: x at j, all else from a to i in order, x's place from before the last. -/
structure Ins (ix : Nat → Nat) (t t' : Nat → Nat) (a i j : Nat) : Prop where
  lo : a ≤ j
  hi : j ≤ i
  img : Img t t' a (i + 1)
  asc : ∀ p q, a ≤ p → p < q → q ≤ i → p ≠ j → q ≠ j → t' p < t' q
  up : ∀ q, j < q → q ≤ i → t' j < t' q
  last : ∀ q, a ≤ q → q ≤ i → q ≠ j → ix (t' q) < ix (t' j)

theorem Ins.swap {ix : Nat → Nat} {t t' : Nat → Nat} {a i j : Nat} (h : Ins ix t t' a i j) (hj : a < j) (hl : t' j < t' (j - 1)) : Ins ix t (swp t' j (j - 1)) a i (j - 1) := by
  have hlo := h.lo
  have hhi := h.hi
  have e1 : swp t' j (j - 1) (j - 1) = t' j := by unfold swp; rw [if_neg (by omega), if_pos rfl]
  have e2 : swp t' j (j - 1) j = t' (j - 1) := by unfold swp; rw [if_pos rfl]
  have e3 : ∀ k, k ≠ j → k ≠ j - 1 → swp t' j (j - 1) k = t' k := fun k a b => by unfold swp; rw [if_neg a, if_neg b]
  refine ⟨by omega, by omega, h.img.trans (swp_img _ (by omega) (by omega) (by omega) (by omega)), ?_, ?_, ?_⟩
  · intro p q hp hpq hq n1 n2
    by_cases pj : p = j
    · subst pj
      rw [e2, e3 q (by omega) n2]
      exact h.asc _ _ (by omega) (by omega) hq (by omega) (by omega)
    · by_cases qj : q = j
      · subst qj
        rw [e2, e3 p pj n1]
        exact h.asc _ _ hp (by omega) (by omega) pj (by omega)
      · rw [e3 p pj n1, e3 q qj n2]
        exact h.asc _ _ hp hpq hq pj qj
  · intro q hq1 hq2
    rw [e1]
    by_cases qj : q = j
    · subst qj; rw [e2]; exact hl
    · rw [e3 q qj (by omega)]
      exact h.up q (by omega) hq2
  · intro q hq1 hq2 n1
    rw [e1]
    by_cases qj : q = j
    · subst qj; rw [e2]; exact h.last _ (by omega) (by omega) (by omega)
    · rw [e3 q qj n1]; exact h.last q hq1 hq2 qj

theorem Ins.start {ix : Nat → Nat} {t : Nat → Nat} {a i : Nat} (hai : a ≤ i) (hasc : Asc t a i) (hix : ∀ q, a ≤ q → q < i → ix (t q) < ix (t i)) : Ins ix t t a i i :=
  ⟨hai, Nat.le_refl _, Img.refl _ _ _, fun p q h1 h2 h3 h4 h5 => hasc p q h1 h2 (by omega), fun q h1 h2 => by omega, fun q h1 h2 h3 => hix q h1 (by omega)⟩

theorem Ins.done {ix : Nat → Nat} {t t' : Nat → Nat} {a i j : Nat} (h : Ins ix t t' a i j) (hl : a < j → t' (j - 1) < t' j) : Asc t' a (i + 1) := by
  intro p q hp hpq hq
  by_cases pj : p = j
  · subst pj; exact h.up q hpq (by omega)
  · by_cases qj : q = j
    · subst qj
      have h1 := hl (by omega)
      by_cases e : p = q - 1
      · rw [e]; exact h1
      · exact Nat.lt_trans (h.asc p (q - 1) hp (by omega) (by have := h.hi; omega) pj (by omega)) h1
    · exact h.asc p q hp hpq (by omega) pj qj

/-- What the insertion has done ahead of place i. -/
structure InsAll (ix : Nat → Nat) (t t' : Nat → Nat) (a i b : Nat) : Prop where
  img : Img t t' a b
  low : ∀ k, a ≤ k → k < i → ∃ k', a ≤ k' ∧ k' < i ∧ t' k = t k'
  asc : Asc t' a i
  rest : ∀ k, i ≤ k → t' k = t k

theorem InsAll.start (ix : Nat → Nat) (t : Nat → Nat) (a b : Nat) : InsAll ix t t a (a + 1) b :=
  ⟨Img.refl _ _ _, fun k h1 h2 => ⟨k, h1, h2, rfl⟩, fun i j h1 h2 h3 => by omega, fun _ _ => rfl⟩

theorem InsAll.begin {ix : Nat → Nat} {t t' : Nat → Nat} {a i b : Nat} (h : InsAll ix t t' a i b) (hai : a < i) (hib : i < b) (hix : ∀ p q, a ≤ p → p < q → q < b → ix (t p) < ix (t q)) : Ins ix t' t' a i i := by
  refine Ins.start (by omega) h.asc fun q h1 h2 => ?_
  obtain ⟨k, k1, k2, e⟩ := h.low q h1 h2
  rw [e, h.rest i (Nat.le_refl _)]
  exact hix _ _ k1 k2 hib

theorem InsAll.next {ix : Nat → Nat} {t t' u : Nat → Nat} {a i j b : Nat} (h : InsAll ix t t' a i b) (hib : i < b) (hu : Ins ix t' u a i j) (hl : a < j → u (j - 1) < u j) : InsAll ix t u a (i + 1) b := by
  refine ⟨h.img.trans (hu.img.wide (Nat.le_refl _) (by omega)), ?_, hu.done hl, fun k hk => (hu.img.2 k (by omega)).trans (h.rest k (by omega))⟩
  intro k h1 h2
  obtain ⟨k1, a1, b1, e1⟩ := hu.img.1 k h1 h2
  by_cases hk1 : k1 = i
  · exact ⟨i, by omega, by omega, by rw [e1, hk1, h.rest i (Nat.le_refl _)]⟩
  · obtain ⟨k2, a2, b2, e2⟩ := h.low k1 a1 (by omega)
    exact ⟨k2, a2, by omega, e1.trans e2⟩

/-- Two ranges of n places exchanged. -/
def swr (t : Nat → Nat) (a b n : Nat) : Nat → Nat := fun x => if a ≤ x ∧ x < a + n then t (x - a + b) else if b ≤ x ∧ x < b + n then t (x - b + a) else t x
theorem swr_zero (t : Nat → Nat) (a b : Nat) : swr t a b 0 = t := by
  funext x; unfold swr; rw [if_neg (by omega), if_neg (by omega)]
theorem swr_succ (t : Nat → Nat) (a b n i : Nat) (h : a + n ≤ b) (hi : i < n) : swp (swr t a b i) (a + i) (b + i) = swr t a b (i + 1) := by
  funext x
  unfold swp swr
  by_cases h1 : x = a + i
  · subst h1
    rw [if_pos rfl, if_neg (by omega), if_neg (by omega), if_pos (by omega)]
    congr 1; omega
  · rw [if_neg h1]
    by_cases h2 : x = b + i
    · subst h2
      rw [if_pos rfl, if_neg (by omega), if_neg (by omega), if_neg (by omega), if_pos (by omega)]
      congr 1; omega
    · rw [if_neg h2]
      by_cases h3 : a ≤ x ∧ x < a + i
      · rw [if_pos h3, if_pos (by omega)]
      · rw [if_neg h3, if_neg (c := a ≤ x ∧ x < a + (i + 1)) (by omega)]
        by_cases h4 : b ≤ x ∧ x < b + i
        · rw [if_pos h4, if_pos (by omega)]
        · rw [if_neg h4, if_neg (by omega)]

/-- The places from a to m behind those from m to b. -/
def rot (t : Nat → Nat) (a m b : Nat) : Nat → Nat := fun x => if a ≤ x ∧ x < a + (b - m) then t (x + m - a) else if a + (b - m) ≤ x ∧ x < b then t (x + m - b) else t x

theorem rot_left (t : Nat → Nat) {m i j : Nat} (hij : j < i) (him : i ≤ m) : rot (swr t (m - i) m j) (m - (i - j)) m (m + j) = rot t (m - i) m (m + j) := by
  funext x
  unfold rot swr
  repeat' split
  all_goals first | omega | (congr 1; omega) | rfl
theorem rot_right (t : Nat → Nat) {m i j : Nat} (hij : i < j) (him : i ≤ m) : rot (swr t (m - i) (m + j - i) i) (m - i) m (m + (j - i)) = rot t (m - i) m (m + j) := by
  funext x
  unfold rot swr
  repeat' split
  all_goals first | omega | (congr 1; omega) | rfl
theorem rot_same (t : Nat → Nat) {m i : Nat} (him : i ≤ m) : swr t (m - i) m i = rot t (m - i) m (m + i) := by
  funext x
  unfold rot swr
  repeat' split
  all_goals first | omega | (congr 1; omega) | rfl

/-- Two halves in order, the left ones' places from before the right ones'. -/
structure Halves (ix : Nat → Nat) (t : Nat → Nat) (a m b : Nat) : Prop where
  left : Asc t a m
  right : Asc t m b
  before : ∀ p q, a ≤ p → p < m → m ≤ q → q < b → ix (t p) < ix (t q)

structure Merged (t t' : Nat → Nat) (a b : Nat) : Prop where
  img : Img t t' a b
  asc : Asc t' a b

/-- One place moved to the right. -/
def shl (t : Nat → Nat) (a k : Nat) : Nat → Nat := fun x => if a ≤ x ∧ x < k then t (x + 1) else if x = k then t a else t x
theorem shl_start (t : Nat → Nat) (a : Nat) : shl t a a = t := by
  funext x; unfold shl; rw [if_neg (by omega)]; split
  · subst x; rfl
  · rfl
theorem shl_next (t : Nat → Nat) {a k : Nat} (h : a ≤ k) : swp (shl t a k) k (k + 1) = shl t a (k + 1) := by
  funext x
  unfold swp shl
  repeat' split
  all_goals first | omega | (congr 1; omega) | rfl
theorem shl_merged {ix t : Nat → Nat} {a m b i : Nat} (h : Halves ix t a m b) (hm : m = a + 1) (h1 : m ≤ i) (h2 : i ≤ b) (hl : ∀ k, m ≤ k → k < i → t k < t a) (hr : ∀ k, i ≤ k → k < b → t a < t k) : Merged t (shl t a (i - 1)) a b := by
  refine ⟨⟨fun k k1 k2 => ?_, fun k hk => ?_⟩, fun p q hp hpq hq => ?_⟩
  · unfold shl
    repeat' split
    · exact ⟨k + 1, by omega, by omega, rfl⟩
    · exact ⟨a, by omega, by omega, rfl⟩
    · exact ⟨k, by omega, by omega, rfl⟩
  · unfold shl
    by_cases hb : b ≤ a
    · repeat' split
      all_goals first | omega | rfl
    · repeat' split
      all_goals first | omega | rfl
  · have R := h.right
    unfold shl
    repeat' split
    all_goals first | omega | exact R _ _ (by omega) (by omega) (by omega) | exact hl _ (by omega) (by omega) | exact hr _ (by omega) (by omega) | skip

/-- One place moved to the left. -/
def shr (t : Nat → Nat) (m k : Nat) : Nat → Nat := fun x => if k < x ∧ x ≤ m then t (x - 1) else if x = k then t m else t x
theorem shr_start (t : Nat → Nat) (m : Nat) : shr t m m = t := by
  funext x; unfold shr; rw [if_neg (by omega)]; split
  · subst x; rfl
  · rfl
theorem shr_next (t : Nat → Nat) {m k : Nat} (h : k ≤ m) (h0 : 0 < k) : swp (shr t m k) k (k - 1) = shr t m (k - 1) := by
  funext x
  unfold swp shr
  repeat' split
  all_goals first | omega | (congr 1; omega) | rfl
theorem shr_merged {ix t : Nat → Nat} {a m b i : Nat} (h : Halves ix t a m b) (hm : b = m + 1) (h1 : a ≤ i) (h2 : i ≤ m) (hl : ∀ k, a ≤ k → k < i → t k < t m) (hr : ∀ k, i ≤ k → k < m → t m < t k) : Merged t (shr t m i) a b := by
  refine ⟨⟨fun k k1 k2 => ?_, fun k hk => ?_⟩, fun p q hp hpq hq => ?_⟩
  · unfold shr
    repeat' split
    · exact ⟨k - 1, by omega, by omega, rfl⟩
    · exact ⟨m, by omega, by omega, rfl⟩
    · exact ⟨k, by omega, by omega, rfl⟩
  · unfold shr
    repeat' split
    all_goals first | omega | rfl
  · have R := h.left
    unfold shr
    repeat' split
    all_goals first | omega | exact R _ _ (by omega) (by omega) (by omega) | exact hl _ (by omega) (by omega) | exact hr _ (by omega) (by omega) | skip

/-- The search's facts: below s the left one is less, from r on it is greater. -/
structure Search (t : Nat → Nat) (n lo hi s r : Nat) : Prop where
  l1 : lo ≤ s
  l2 : s ≤ r
  l3 : r ≤ hi
  low : lo < s → t (s - 1) < t (n - s)
  high : r < hi → t (n - 1 - r) < t r

/-- Behind the rotation. -/
theorem rot_halves {ix t : Nat → Nat} {a m b s n mid lo hi : Nat} (h : Halves ix t a m b) (ham : a < m) (hmb : m < b) (hmid : mid = (a + b) / 2) (hn : n = mid + m) (hlo : (mid < m ∧ lo = n - b ∧ hi = mid) ∨ (m ≤ mid ∧ lo = a ∧ hi = m)) (hs : Search t n lo hi s s) :
    a ≤ s ∧ s ≤ m ∧ m ≤ n - s ∧ n - s ≤ b ∧ s ≤ mid ∧ mid ≤ n - s ∧ Halves ix (rot t s m (n - s)) a s mid ∧ Halves ix (rot t s m (n - s)) mid (n - s) b ∧ Img t (rot t s m (n - s)) a b ∧
    (∀ p q, a ≤ p → p < mid → mid ≤ q → q < b → rot t s m (n - s) p < rot t s m (n - s) q) := by
  obtain ⟨l1, _, l3, low, high⟩ := hs
  have b1 : a ≤ s ∧ s ≤ m ∧ m ≤ n - s ∧ n - s ≤ b ∧ s ≤ mid ∧ mid ≤ n - s := by omega
  obtain ⟨b1, b2, b3, b4, b5, b6⟩ := b1
  have A1 : ∀ x, x < s → rot t s m (n - s) x = t x := fun x hx => by unfold rot; rw [if_neg (by omega), if_neg (by omega)]
  have B1 : ∀ x, s ≤ x → x < mid → rot t s m (n - s) x = t (x + m - s) := fun x h1 h2 => by unfold rot; rw [if_pos (by omega)]
  have A2 : ∀ x, mid ≤ x → x < n - s → rot t s m (n - s) x = t (x + m - (n - s)) := fun x h1 h2 => by unfold rot; rw [if_neg (by omega), if_pos (by omega)]
  have B2 : ∀ x, n - s ≤ x → rot t s m (n - s) x = t x := fun x hx => by unfold rot; rw [if_neg (by omega), if_neg (by omega)]
  refine ⟨b1, b2, b3, b4, b5, b6, ⟨?_, ?_, ?_⟩, ⟨?_, ?_, ?_⟩, ⟨?_, ?_⟩, ?_⟩
  · intro p q h1 h2 h3; rw [A1 p (by omega), A1 q h3]; exact h.left _ _ h1 h2 (by omega)
  · intro p q h1 h2 h3; rw [B1 p h1 (by omega), B1 q (by omega) h3]; exact h.right _ _ (by omega) (by omega) (by omega)
  · intro p q h1 h2 h3 h4; rw [A1 p h2, B1 q h3 h4]; exact h.before _ _ h1 (by omega) (by omega) (by omega)
  · intro p q h1 h2 h3; rw [A2 p h1 (by omega), A2 q (by omega) h3]; exact h.left _ _ (by omega) (by omega) (by omega)
  · intro p q h1 h2 h3; rw [B2 p h1, B2 q (by omega)]; exact h.right _ _ (by omega) (by omega) h3
  · intro p q h1 h2 h3 h4; rw [A2 p h1 h2, B2 q h3]; exact h.before _ _ (by omega) (by omega) (by omega) (by omega)
  · intro k h1 h2
    by_cases c1 : k < s
    · exact ⟨k, h1, h2, A1 k c1⟩
    · by_cases c2 : k < mid
      · exact ⟨k + m - s, by omega, by omega, B1 k (by omega) c2⟩
      · by_cases c3 : k < n - s
        · exact ⟨k + m - (n - s), by omega, by omega, A2 k (by omega) c3⟩
        · exact ⟨k, h1, h2, B2 k (by omega)⟩
  · intro k hk
    rcases hk with hk | hk
    · exact A1 k (by omega)
    · exact B2 k (by omega)
  · have maxL : ∀ p, a ≤ p → p < s → t p ≤ t (s - 1) := fun p h1 h2 => by
      by_cases e : p = s - 1
      · rw [e]; exact Nat.le_refl _
      · exact Nat.le_of_lt (h.left _ _ h1 (by omega) (by omega))
    have minR : ∀ q, n - s ≤ q → q < b → t (n - s) ≤ t q := fun q h1 h2 => by
      by_cases e : q = n - s
      · rw [e]; exact Nat.le_refl _
      · exact Nat.le_of_lt (h.right _ _ (by omega) (by omega) h2)
    have maxB : ∀ q, m ≤ q → q < n - s → t q ≤ t (n - s - 1) := fun q h1 h2 => by
      by_cases e : q = n - s - 1
      · rw [e]; exact Nat.le_refl _
      · exact Nat.le_of_lt (h.right _ _ h1 (by omega) (by omega))
    have minA : ∀ p, s ≤ p → p < m → t s ≤ t p := fun p h1 h2 => by
      by_cases e : p = s
      · rw [e]; exact Nat.le_refl _
      · exact Nat.le_of_lt (h.left _ _ (by omega) (by omega) h2)
    intro p q h1 h2 h3 h4
    by_cases c1 : p < s
    · rw [A1 p c1]
      by_cases c2 : q < n - s
      · rw [A2 q h3 c2]; exact h.left _ _ h1 (by omega) (by omega)
      · rw [B2 q (by omega)]
        have := low (by omega)
        have k1 := maxL p h1 c1
        have k2 := minR q (by omega) h4
        omega
    · rw [B1 p (by omega) h2]
      by_cases c2 : q < n - s
      · rw [A2 q h3 c2]
        have k3 := high (by omega)
        have k1 := maxB (p + m - s) (by omega) (by omega)
        have k2 := minA (q + m - (n - s)) (by omega) (by omega)
        rw [show n - 1 - s = n - s - 1 by omega] at k3
        omega
      · rw [B2 q (by omega)]; exact h.right _ _ (by omega) (by omega) h4

/-- Behind the two merges. -/
theorem merged_both {t u v w : Nat → Nat} {a mid b : Nat} (h1 : a ≤ mid) (h2 : mid ≤ b) (hi : Img t u a b) (hx : ∀ p q, a ≤ p → p < mid → mid ≤ q → q < b → u p < u q) (hl : Merged u v a mid) (hr : Merged v w mid b) : Merged t w a b := by
  refine ⟨hi.trans ((hl.img.wide (Nat.le_refl _) h2).trans (hr.img.wide h1 (Nat.le_refl _))), fun p q hp hpq hq => ?_⟩
  by_cases c1 : q < mid
  · rw [hr.img.2 p (by omega), hr.img.2 q (by omega)]; exact hl.asc _ _ hp hpq c1
  · by_cases c2 : mid ≤ p
    · exact hr.asc _ _ c2 hpq hq
    · rw [hr.img.2 p (by omega)]
      obtain ⟨k1, a1, b1, e1⟩ := hl.img.1 p hp (by omega)
      obtain ⟨k2, a2, b2, e2⟩ := hr.img.1 q (by omega) hq
      rw [e1, e2, hl.img.2 k2 (by omega)]
      exact hx _ _ a1 b1 a2 b2
theorem Merged.refl_of {t : Nat → Nat} {a b : Nat} (h : Asc t a b) : Merged t t a b := ⟨Img.refl _ _ _, h⟩
theorem Halves.one {ix t : Nat → Nat} {a m b : Nat} (h : Halves ix t a m b) (hc : m ≤ a ∨ b ≤ m) : Asc t a b := by
  intro i j h1 h2 h3
  rcases hc with hc | hc
  · exact h.right _ _ (by omega) h2 h3
  · exact h.left _ _ h1 h2 (by omega)
theorem Halves.keep {ix t u : Nat → Nat} {a m b : Nat} (h : Halves ix t a m b) (hu : ∀ k, a ≤ k → k < b → u k = t k) (ham : a ≤ m) (hmb : m ≤ b) : Halves ix u a m b :=
  ⟨fun i j h1 h2 h3 => by rw [hu i h1 (by omega), hu j (by omega) (by omega)]; exact h.left _ _ h1 h2 h3, fun i j h1 h2 h3 => by rw [hu i (by omega) (by omega), hu j (by omega) h3]; exact h.right _ _ h1 h2 h3,
    fun p q h1 h2 h3 h4 => by rw [hu p h1 (by omega), hu q (by omega) h4]; exact h.before _ _ h1 h2 h3 h4⟩

/-- In order and below n: each at its own place. -/
theorem asc_id {t : Nat → Nat} {n : Nat} (h : Asc t 0 n) (hn : ∀ k, k < n → t k < n) : ∀ k, k < n → t k = k := by
  have lo : ∀ k, k < n → k ≤ t k := by
    intro k
    induction k with
    | zero => intro _; omega
    | succ k ih => intro hk; have := ih (by omega); have := h k (k + 1) (by omega) (by omega) hk; omega
  have hi : ∀ d k, k + d + 1 = n → t k ≤ k := by
    intro d
    induction d with
    | zero => intro k hk; have := hn k (by omega); omega
    | succ d ih => intro k hk; have := ih (k + 1) (by omega); have := h k (k + 1) (by omega) (by omega) (by omega); omega
  intro k hk
  have := lo k hk
  have := hi (n - k - 1) k (by omega)
  omega
end Go.Proofs.Ytfflfbnnohlipaa
