/- What some of the laws lean on beside the rest. -/
import Derived.Test.YtclbmmiedihepaaGreatDoorRL
namespace Go.Proofs.YtclbmmiedihepaaGreatDoor
open Go.RowKit
set_option linter.unusedVariables false
set_option linter.unusedSimpArgs false
/-- Is a text blanks, lines' ends and comments alone? -/
def idleV (L : BL) : Bool := match L with
 | [] => true
 | c :: r => if c.toNat = 47 ∧ r.head? = some 47 then idleV (r.drop (comN r + 1)) else (isBl c || decide (c.toNat = 10)) && idleV r
termination_by L.length
decreasing_by
 all_goals
  try simp only [List.length_drop, List.length_cons]
  omega
theorem idle_nil : idleV [] = true := by unfold idleV; rfl
theorem idle_com {c : UInt8} {r : BL} (h : c.toNat = 47 ∧ r.head? = some 47) : idleV (c :: r) = idleV (r.drop (comN r + 1)) := by
 rw [idleV]; exact if_pos h
theorem idle_bl {c : UInt8} {r : BL} (h : isBl c = true) : idleV (c :: r) = idleV r := by
 rw [idleV, if_neg, h]
 · simp
 · intro e
   have : c = 47 := UInt8.toNat_inj.1 e.1
   subst this
   exact absurd h (by decide)
theorem idle_nl {c : UInt8} {r : BL} (h : c.toNat = 10) : idleV (c :: r) = idleV r := by
 rw [idleV, if_neg, h]
 · simp
 · omega
/-- Tokens in order, with what is idle between, from a place on; p: where the token before ends. -/
def tilesV (L : BL) : Nat → Option Nat → List Tk → Prop
 | at_, _, [] => idleV (L.drop at_) = true
 | at_, p, t :: l => at_ ≤ t.fr ∧ t.fr ≤ t.ed ∧ t.ed ≤ L.length ∧ (L.drop t.fr).take (t.ed - t.fr) = t.text ∧ idleV ((L.drop at_).take (t.fr - at_)) = true ∧ (t.fr = t.ed → t.kind = 7 ∧ p = some t.fr) ∧ tilesV L t.ed (some t.ed) l
theorem com_take {r : BL} {m : Nat} (h : comN r < m) : comN (r.take m) = comN r := by
 unfold comN at h ⊢
 induction r generalizing m with
 | nil => simp
 | cons a r ih =>
  cases m with
  | zero => omega
  | succ m =>
   rw [List.take_succ_cons, List.takeWhile_cons, List.takeWhile_cons]
   rw [List.takeWhile_cons] at h
   split
   · rename_i ha
     rw [if_pos ha] at h
     simp only [List.length_cons] at h ⊢
     rw [ih (by omega)]
   · rfl
theorem com_le (r : BL) : comN r ≤ r.length := (List.takeWhile_sublist _).length_le
theorem com_full {r : BL} : comN (r.take (comN r)) = comN r := by
 unfold comN
 induction r with
 | nil => rfl
 | cons a r ih =>
  rw [List.takeWhile_cons]
  split
  · rename_i ha
    rw [List.length_cons, List.take_succ_cons, List.takeWhile_cons, if_pos ha, List.length_cons, ih]
  · rfl
theorem com_next {r : BL} {c : UInt8} {z : BL} (h : r.drop (comN r) = c :: z) : c.toNat = 10 := by
 unfold comN at h
 induction r with
 | nil => simp at h
 | cons a r ih =>
  rw [List.takeWhile_cons] at h
  split at h
  · rw [List.length_cons, List.drop_succ_cons] at h; exact ih h
  · rename_i ha
    simp only [List.length_nil, List.drop_zero, List.cons.injEq] at h
    rw [← h.1]; simpa using ha
/-- A comment, and what is idle behind it. -/
theorem idle_over {c : UInt8} {r : BL} (h : c.toNat = 47 ∧ r.head? = some 47) {n : Nat} (hn : comN r ≤ n) (hi : idleV ((r.drop (comN r)).take (n - comN r)) = true) : idleV ((c :: r).take (n + 1)) = true := by
 have hc : 0 < comN r := by
  cases r with
  | nil => simp at h
  | cons a r =>
   have ha : a = 47 := by simpa using h.2
   subst ha
   unfold comN
   rw [List.takeWhile_cons, if_pos (by decide)]; simp
 rw [List.take_succ_cons, idle_com]
 · by_cases hm : comN r < n
   · rw [com_take hm, List.drop_take]
     obtain ⟨m, rfl⟩ : ∃ m, n = comN r + 1 + m := ⟨n - comN r - 1, by omega⟩
     cases hd : r.drop (comN r) with
     | nil =>
      have : r.drop (comN r + 1) = [] := by
       rw [← List.drop_drop, hd]; rfl
      rw [this]; simp [idle_nil]
     | cons a z =>
      have ha := com_next hd
      have : r.drop (comN r + 1) = z := by rw [← List.drop_drop, hd]; rfl
      rw [this]
      rw [hd, show comN r + 1 + m - comN r = m + 1 by omega, List.take_succ_cons, idle_nl ha] at hi
      rw [show comN r + 1 + m - (comN r + 1) = m by omega]
      exact hi
   · obtain rfl : n = comN r := by omega
     rw [com_full, List.drop_of_length_le]
     · exact idle_nil
     · rw [List.length_take]; omega
 · refine ⟨h.1, ?_⟩
   cases r with
   | nil => simp at h
   | cons a r =>
    obtain ⟨m, rfl⟩ : ∃ m, n = m + 1 := ⟨n - 1, by omega⟩
    simpa using h.2
theorem takeV_le (eF : BL → Int) (L : BL) : (takeV eF L).2.2 ≤ L.length := by
 unfold takeV
 split
 · have := spelt_le L
   split
   · exact this
   · split
     · exact this
     · split <;> exact this
 · split
   · exact numN_le L
   · split
     · rename_i h; exact (quotV_le h).2
     · split
       · rename_i h
         cases L with
         | nil => simp at h
         | cons => simp
       · split
         · exact markN_le L
         · exact Nat.zero_le _
theorem tiles_end {eF : BL → Int} {L : BL} {at_ : Nat} {acc : List Tk} {last : Option Tk} {l : List Tk} {st : Nat} {p : Option Nat} (ha : at_ ≤ L.length) (hst : st ≤ at_)
  (hi : ∀ n, at_ ≤ n → n ≤ L.length → idleV ((L.drop at_).take (n - at_)) = true → idleV ((L.drop st).take (n - st)) = true)
  (hl : ∀ t, last = some t → t.ed = st ∧ p = some st) (he : L.length ≤ at_) (h : lexV eF L at_ acc last = .ok l) : ∃ r, l = acc ++ r ∧ tilesV L st p r := by
 have hn : L.drop at_ = [] := List.drop_of_length_le he
 have h0 : idleV (L.drop st) = true := by
  have := hi L.length ha (Nat.le_refl _) (by rw [hn]; simp [idle_nil])
  rwa [List.take_of_length_le (by rw [List.length_drop]; omega)] at this
 rw [lexV_nil hn] at h
 unfold closeV at h
 cases last with
 | none => cases h; exact ⟨[], by simp, h0⟩
 | some t =>
  obtain ⟨e1, e2⟩ := hl t rfl
  simp only at h
  split at h
  · cases h
    refine ⟨[⟨7, [], t.ed, t.ed⟩], rfl, ?_⟩
    refine ⟨by show st ≤ t.ed; omega, Nat.le_refl _, by show t.ed ≤ _; omega, by simp, ?_, ?_, ?_⟩
    · show idleV (List.take (t.ed - st) _) = true
      rw [e1, Nat.sub_self]; exact idle_nil
    · intro _; exact ⟨rfl, by rw [e2, ← e1]⟩
    · show idleV (L.drop t.ed) = true
      rw [e1]; exact h0
  · cases h; exact ⟨[], by simp, h0⟩
theorem lex_tiles (eF : BL → Int) (L : BL) : ∀ (f at_ : Nat) (acc : List Tk) (last : Option Tk) (l : List Tk) (st : Nat) (p : Option Nat), L.length - at_ ≤ f → at_ ≤ L.length → st ≤ at_ →
  (∀ n, at_ ≤ n → n ≤ L.length → idleV ((L.drop at_).take (n - at_)) = true → idleV ((L.drop st).take (n - st)) = true) →
  (∀ t, last = some t → t.ed = st ∧ p = some st) → lexV eF L at_ acc last = .ok l → ∃ r, l = acc ++ r ∧ tilesV L st p r := by
 intro f
 induction f with
 | zero =>
  intro at_ acc last l st p hf ha hst hi hl h
  exact tiles_end ha hst hi hl (by omega) h
 | succ f ih =>
  intro at_ acc last l st p hf ha hst hi hl h
  cases hd : L.drop at_ with
  | nil => exact tiles_end ha hst hi hl (by have := congrArg List.length hd; rw [List.length_drop, List.length_nil] at this; omega) h
  | cons c r =>
   obtain ⟨hlen, hdr⟩ := drop_len hd
   rw [lexV_cons hd] at h
   split at h
   · rename_i hb
     refine ih (at_ + 1) acc last l st p (by omega) (by omega) (by omega) (fun n hn hn2 h2 => hi n (by omega) hn2 ?_) hl h
     rw [hd, show n - at_ = (n - (at_ + 1)) + 1 by omega, List.take_succ_cons, idle_bl hb, ← hdr]; exact h2
   · split at h
     · rename_i hb hc
       have key := fun (acc' : List Tk) (p' : Option Nat) (h' : lexV eF L (at_ + 1) acc' none = .ok l) => ih (at_ + 1) acc' none l st p' (by omega) (by omega) (by omega) (fun n hn hn2 h2 => hi n (by omega) hn2 (by
        rw [hd, show n - at_ = (n - (at_ + 1)) + 1 by omega, List.take_succ_cons, idle_nl hc, ← hdr]; exact h2)) (fun t ht => by cases ht) h'
       unfold closeV at h
       cases last with
       | none => exact key acc p h
       | some t =>
        obtain ⟨e1, e2⟩ := hl t rfl
        simp only at h
        split at h
        · obtain ⟨q, e3, e4⟩ := key _ (some st) h
          refine ⟨⟨7, [], t.ed, t.ed⟩ :: q, by rw [e3]; simp, ?_⟩
          refine ⟨by show st ≤ t.ed; omega, Nat.le_refl _, by show t.ed ≤ _; omega, by simp, ?_, ?_, ?_⟩
          · show idleV (List.take (t.ed - st) _) = true
            rw [e1, Nat.sub_self]; exact idle_nil
          · intro _; exact ⟨rfl, by rw [e2, ← e1]⟩
          · show tilesV L t.ed (some t.ed) q
            rw [e1]; exact e4
        · exact key acc p h
     · split at h
       · rename_i hb hc hcom
         have hcl := com_le r
         refine ih (at_ + 1 + comN r) acc last l st p (by omega) (by omega) (by omega) (fun n hn hn2 h2 => hi n (by omega) hn2 ?_) hl h
         rw [hd, show n - at_ = (n - (at_ + 1)) + 1 by omega]
         refine idle_over hcom (by omega) ?_
         have h3 : r.drop (comN r) = L.drop (at_ + 1 + comN r) := by rw [← List.drop_drop, hdr]
         rw [show n - (at_ + 1) - comN r = n - (at_ + 1 + comN r) by omega, h3]
         exact h2
       · split at h
         · rename_i hb hc hcom ht
           have hle := takeV_le eF (c :: r)
           simp only [List.length_cons] at hle
           obtain ⟨m, hm⟩ : ∃ m, (takeV eF (c :: r)).2.2 = m := ⟨_, rfl⟩
           rw [hm] at h ht hle
           obtain ⟨q, e3, e4⟩ := ih (at_ + m) _ _ l (at_ + m) (some (at_ + m)) (by omega) (by omega) (by omega) (fun n hn hn2 h2 => h2) (fun t ht => by
            cases ht; exact ⟨rfl, rfl⟩) h
           refine ⟨_ :: q, by rw [e3, List.append_assoc]; rfl, ?_⟩
           refine ⟨hst, by show at_ ≤ at_ + m; omega, by show at_ + m ≤ _; omega, ?_, ?_, ?_, e4⟩
           · show (L.drop at_).take (at_ + m - at_) = (c :: r).take m
             rw [hd, Nat.add_sub_cancel_left]
           · show idleV (List.take (at_ - st) _) = true
             exact hi at_ (Nat.le_refl _) ha (by rw [Nat.sub_self]; exact idle_nil)
           · intro e; have : at_ = at_ + m := e; omega
         · cases h
/-- Tokens written one behind the other. -/
def againV : List Tk → BL
 | [] => []
 | t :: l => (if t.kind = 7 ∧ t.text = [] then [10] else t.text ++ [32]) ++ againV l
/-- What a token is, but for its place. -/
def kt (t : Tk) : Nat × BL := (t.kind, t.text)
theorem ends_kt {t u : Tk} (h : kt t = kt u) : endsV t = endsV u := by
 have h1 : t.kind = u.kind := congrArg Prod.fst h
 have h2 : t.text = u.text := congrArg Prod.snd h
 unfold endsV; rw [h1, h2]
/-- A token that is read the same with a blank behind it. -/
structure FreeTk (eF : BL → Int) (t : Tk) : Prop where
 hd : ∃ c r, t.text = c :: r ∧ isBl c = false ∧ c.toNat ≠ 10 ∧ ¬ (c.toNat = 47 ∧ r.head? = some 47)
 tk : ∀ z, takeV eF (t.text ++ 32 :: z) = (0, t.kind, t.text.length)
/-- What tokens may follow, the last one of the line being such. -/
inductive Run (eF : BL → Int) : Option Tk → List Tk → Prop
 | nil {o} : (∀ t, o = some t → endsV t = false) → Run eF o []
 | semi {t l a} : endsV t = true → Run eF none l → Run eF (some t) (⟨7, [], a, a⟩ :: l)
 | tok {o t l} : FreeTk eF t → Run eF (some t) l → Run eF o (t :: l)
 | skip {o l} : (∀ t, o = some t → endsV t = false) → Run eF none l → Run eF o l
/-- The last tokens of two lines answer each other. -/
def LastR (o a : Option Tk) : Prop := (∃ t u, o = some t ∧ a = some u ∧ kt u = kt t) ∨ (o = none ∧ ∀ u, a = some u → endsV u = false)
theorem LastR.close {o a : Option Tk} (h : LastR o a) (ho : ∀ t, o = some t → endsV t = false) : ∀ u, a = some u → endsV u = false := by
 rcases h with ⟨t, u, rfl, rfl, e⟩ | ⟨_, h⟩
 · intro v hv; cases hv; rw [ends_kt e]; exact ho t rfl
 · exact h
theorem close_no {acc : List Tk} {a : Option Tk} (h : ∀ u, a = some u → endsV u = false) : closeV acc a = acc := by
 unfold closeV
 cases a with
 | none => rfl
 | some u => simp only [h u rfl]; rfl
theorem relex {eF : BL → Int} {o : Option Tk} {l : List Tk} (h : Run eF o l) : ∀ (A pre : BL) (acc : List Tk) (a : Option Tk), A = pre ++ againV l → LastR o a →
  ∃ r, lexV eF A pre.length acc a = .ok (acc ++ r) ∧ r.map kt = l.map kt := by
 induction h with
 | @nil o h =>
  intro A pre acc a hA hR
  have hd : A.drop pre.length = [] := by rw [hA]; simp [againV]
  exact ⟨[], by rw [lexV_nil hd, close_no (hR.close h)]; simp, rfl⟩
 | @semi t l b he h ih =>
  intro A pre acc a hA hR
  have hd : A.drop pre.length = 10 :: againV l := by rw [hA]; simp [againV]
  obtain ⟨u, rfl, hu⟩ : ∃ u, a = some u ∧ kt u = kt t := by
   rcases hR with ⟨t', u, e1, e2, e3⟩ | ⟨e, _⟩
   · cases e1; exact ⟨u, e2, e3⟩
   · cases e
  rw [lexV_cons hd, if_neg (by decide), if_pos (by decide)]
  obtain ⟨r, e1, e2⟩ := ih A (pre ++ [10]) (closeV acc (some u)) none (by rw [hA]; simp [againV]) (.inr ⟨rfl, fun u h => by cases h⟩)
  have hc : closeV acc (some u) = acc ++ [⟨7, [], u.ed, u.ed⟩] := if_pos ((ends_kt hu).trans he)
  rw [hc] at e1 ⊢
  refine ⟨⟨7, [], u.ed, u.ed⟩ :: r, ?_, by rw [List.map_cons, List.map_cons, e2]; rfl⟩
  rw [show pre.length + 1 = (pre ++ [10]).length by simp, e1, List.append_assoc]; rfl
 | @tok o t l hF h ih =>
  intro A pre acc a hA hR
  obtain ⟨c, r, htx, h1, h2, h3⟩ := hF.hd
  have hne : ¬ (t.kind = 7 ∧ t.text = []) := by rw [htx]; simp
  have hd : A.drop pre.length = t.text ++ 32 :: againV l := by rw [hA]; simp [againV, if_neg hne]
  have htk := hF.tk (againV l)
  have hd2 : A.drop pre.length = c :: (r ++ 32 :: againV l) := by rw [hd, htx]; rfl
  rw [lexV_cons hd2, if_neg (by rw [h1]; simp), if_neg h2, if_neg (by
   intro hh
   cases r with
   | nil => exact absurd hh.2 (by simp)
   | cons x r => exact h3 ⟨hh.1, by simpa using hh.2⟩)]
  rw [show c :: (r ++ 32 :: againV l) = t.text ++ 32 :: againV l by rw [htx]; rfl, htk]
  rw [if_pos ⟨rfl, by rw [htx]; simp⟩]
  have htt : (t.text ++ 32 :: againV l).take t.text.length = t.text := by simp
  simp only [htt]
  have hd3 : A.drop (pre.length + t.text.length) = 32 :: againV l := by rw [← List.drop_drop, hd]; simp
  rw [lexV_cons hd3, if_pos (by decide)]
  obtain ⟨q, e1, e2⟩ := ih A (pre ++ t.text ++ [32]) (acc ++ [⟨t.kind, t.text, pre.length, pre.length + t.text.length⟩]) (some ⟨t.kind, t.text, pre.length, pre.length + t.text.length⟩)
   (by rw [hA]; simp [againV, if_neg hne]) (.inl ⟨t, _, rfl, rfl, rfl⟩)
  refine ⟨⟨t.kind, t.text, pre.length, pre.length + t.text.length⟩ :: q, ?_, by rw [List.map_cons, List.map_cons, e2]; rfl⟩
  rw [show pre.length + t.text.length + 1 = (pre ++ t.text ++ [32]).length by simp [Nat.add_assoc], e1, List.append_assoc]; rfl
 | @skip o l ho h ih =>
  intro A pre acc a hA hR
  exact ih A pre acc a hA (.inr ⟨rfl, hR.close ho⟩)
/-- Quoted: what is read is told by the bytes that are read. -/
theorem escV_take {M M' : BL} {x : UInt8} {n : Nat} (h : escV M = some (x, n)) (e : M'.take n = M.take n) : escV M' = some (x, n) := by
 have hp := escV_pos h
 have key : ∀ k, k < n → M'[k]? = M[k]? := fun k hk => by
  have := congrArg (fun l => l[k]?) e
  simpa [List.getElem?_take, hk] using this
 unfold escV at h
 split at h
 · cases h
 · rename_i c r
   have k0 := key 0 hp.1
   cases M' with
   | nil => simp at k0
   | cons c' r' =>
    have hc : c' = c := by simpa using k0
    subst hc
    unfold escV
    simp only
    split at h
    · rename_i q; rw [if_pos q]; exact h
    · rename_i q
      rw [if_neg q]
      split at h
      · rename_i q2; rw [if_pos q2]; exact h
      · rename_i q2
        rw [if_neg q2]
        split at h
        · rename_i q3; rw [if_pos q3]; exact h
        · rename_i q3
          rw [if_neg q3]
          split at h
          · rename_i q4
            rw [if_pos q4]
            split at h
            · rename_i a b z
              have hn3 : n = 3 := by
               split at h
               · cases h; rfl
               · cases h
              subst hn3
              have k1 := key 1 (by omega)
              have k2 := key 2 (by omega)
              cases r' with
              | nil => simp at k1
              | cons a' r' =>
               cases r' with
               | nil => simp at k2
               | cons b' r' =>
                have ha : a' = a := by simpa using k1
                have hb : b' = b := by simpa using k2
                subst ha; subst hb
                exact h
            · cases h
          · cases h
theorem quotAt_take {L L' : BL} : ∀ (f i : Nat) (b v : BL) (n : Nat), L.length - i ≤ f → quotAt L i b = some (v, n) → L'.take n = L.take n → quotAt L' i b = some (v, n) := by
 intro f
 induction f with
 | zero =>
  intro i b v n hf h e
  have := quotAt_le L 0 i b v n hf h
  omega
 | succ f ih =>
  intro i b v n hf h e
  have hle := quotAt_le L _ i b v n hf h
  have key : ∀ k, k < n → L'[k]? = L[k]? := fun k hk => by
   have := congrArg (fun l => l[k]?) e
   simpa [List.getElem?_take, hk] using this
  have hiL : i < L.length := by omega
  have hk := key i hle.1
  rw [List.getElem?_eq_getElem hiL] at hk
  have hiL' : i < L'.length := (List.getElem?_eq_some_iff.1 hk).1
  have hc : L'[i] = L[i] := (List.getElem?_eq_some_iff.1 hk).2
  rw [quotAt, dif_pos hiL] at h
  rw [quotAt, dif_pos hiL', hc]
  split at h
  · rename_i q; rw [if_pos q]; exact h
  · rename_i q
    rw [if_neg q]
    split at h
    · cases h
    · rename_i q2
      rw [if_neg q2]
      split at h
      · rename_i q3
        rw [if_pos q3]
        cases hes : escV (L.drop (i + 1)) with
        | none => rw [hes] at h; cases h
        | some xm =>
         obtain ⟨x, m⟩ := xm
         rw [hes] at h
         have h' : quotAt L (i + 1 + m) (b ++ [x]) = some (v, n) := h
         have hm := escV_pos hes
         have hle2 := quotAt_le L _ _ _ v n (Nat.le_refl _) h'
         have : escV (L'.drop (i + 1)) = some (x, m) := escV_take hes (by
          have e2 := congrArg (fun l => (l.drop (i + 1)).take m) e
          simp only [List.drop_take, List.take_take] at e2
          rwa [Nat.min_eq_left (by omega)] at e2)
         rw [this]
         exact ih (i + 1 + m) (b ++ [x]) v n (by omega) h' e
      · rename_i q3
        rw [if_neg q3]
        exact ih (i + 1) (b ++ [L[i]]) v n (by omega) h e
theorem quotV_take {L L' v : BL} {n : Nat} (h : quotV L = some (v, n)) (e : L'.take n = L.take n) : quotV L' = some (v, n) := by
 have hn := quotV_le h
 unfold quotV at h
 split at h
 · cases h
 · rename_i c r
   cases L' with
   | nil => have := congrArg List.length e; simp at this; omega
   | cons c' r' =>
    have hc : c' = c := by
     have := congrArg (fun l => l[0]?) e
     simpa [List.getElem?_take, show 0 < n by omega] using this
    subst hc
    unfold quotV
    simp only
    split at h
    · rename_i q; rw [if_pos q]; exact quotAt_take _ _ _ _ _ (Nat.le_refl _) h e
    · cases h
theorem takeW_blank {p : UInt8 → Bool} (hp : p 32 = false) {L z : BL} : (L.take (L.takeWhile p).length ++ 32 :: z).takeWhile p = L.takeWhile p := by
 induction L with
 | nil => simp [hp]
 | cons c L ih =>
  cases hc : p c with
  | true => rw [List.takeWhile_cons, hc]; simp only [if_true, List.length_cons, List.take_succ_cons, List.cons_append, List.takeWhile_cons, hc, ih]
  | false => rw [List.takeWhile_cons, hc]; simp [hp]
theorem spelt_blank {L z : BL} (h : 0 < speltN L) : speltN (L.take (speltN L) ++ 32 :: z) = speltN L ∧ (L.take (speltN L) ++ 32 :: z).take (speltN L) = L.take (speltN L) := by
 have hlen := (spelt_take h).2.1
 refine ⟨?_, List.take_left' hlen⟩
 cases L with
 | nil => exact absurd h (by decide)
 | cons c r =>
  have e : speltN (c :: r) = if isLet c then ((c :: r).takeWhile isLD).length else 0 := rfl
  cases hc : isLet c with
  | false => rw [e, hc, if_neg Bool.false_ne_true] at h; omega
  | true =>
   rw [hc, if_pos rfl] at e
   have hw := takeW_blank (p := isLD) (by decide) (L := c :: r) (z := z)
   rw [← e] at hw
   obtain ⟨m, hm⟩ : ∃ m, speltN (c :: r) = m + 1 := ⟨speltN (c :: r) - 1, by omega⟩
   have h2 : (c :: r).take (speltN (c :: r)) ++ 32 :: z = c :: (r.take m ++ 32 :: z) := by rw [hm]; rfl
   rw [h2] at hw ⊢
   have e2 : speltN (c :: (r.take m ++ 32 :: z)) = ((c :: (r.take m ++ 32 :: z)).takeWhile isLD).length := if_pos hc
   rw [e2, hw, e]
theorem digN_le_take {L z : BL} {m : Nat} (h : digN L ≤ m) : digN (L.take m ++ 32 :: z) = digN L := by
 unfold digN at h ⊢
 induction L generalizing m with
 | nil => rw [List.take_nil]; rfl
 | cons c L ih =>
  rw [List.takeWhile_cons] at h ⊢
  cases hc : isDig c with
  | true =>
   rw [hc] at h
   simp only [if_true, List.length_cons] at h ⊢
   obtain ⟨m, rfl⟩ : ∃ k, m = k + 1 := ⟨m - 1, by omega⟩
   rw [List.take_succ_cons, List.cons_append, List.takeWhile_cons, hc]
   simp only [if_true, List.length_cons]
   rw [ih (by omega)]
  | false =>
   cases m with
   | zero => rw [List.take_zero, List.nil_append]; rfl
   | succ m => rw [List.take_succ_cons, List.cons_append, List.takeWhile_cons, hc]; simp
theorem get_take {L z : BL} {m k : Nat} (h : k < m) (hL : k < L.length) : (L.take m ++ 32 :: z)[k]? = L[k]? := by
 rw [List.getElem?_append_left (by rw [List.length_take]; omega), List.getElem?_take, if_pos h]
theorem drop_take_app {L z : BL} {m k : Nat} (h : k ≤ m) (hm : m ≤ L.length) : (L.take m ++ 32 :: z).drop k = (L.drop k).take (m - k) ++ 32 :: z := by
 rw [List.drop_append_of_le_length (by rw [List.length_take]; omega), List.drop_take]
theorem expN_blank {r z : BL} : expN (r.take (expN r) ++ 32 :: z) = expN r := by
 have hle := expN_le r
 cases r with
 | nil => rfl
 | cons c p =>
  by_cases hc : c.toNat = 101
  · obtain ⟨d, hd⟩ : ∃ d, digN (p.drop (sgN p)) = d := ⟨_, rfl⟩
    have e : expN (c :: p) = if d = 0 then 0 else 1 + sgN p + d := by
     have : expN (c :: p) = if c.toNat = 101 then (if digN (p.drop (sgN p)) = 0 then 0 else 1 + sgN p + digN (p.drop (sgN p))) else 0 := rfl
     rw [this, if_pos hc, hd]
    by_cases h0 : d = 0
    · rw [e, if_pos h0]; rfl
    · rw [if_neg h0] at e
      have hsl : sgN p ≤ p.length := by
       cases p with
       | nil => exact Nat.zero_le _
       | cons x q => unfold sgN; simp only; split <;> simp
      have hdl := digN_drop_le p (sgN p)
      rw [e, show 1 + sgN p + d = (sgN p + d) + 1 by omega, List.take_succ_cons, List.cons_append]
      have hs : sgN (p.take (sgN p + d) ++ 32 :: z) = sgN p := by
       cases p with
       | nil => simp [digN] at hd; omega
       | cons x q =>
        obtain ⟨m, hm⟩ : ∃ m, sgN (x :: q) + d = m + 1 := ⟨sgN (x :: q) + d - 1, by omega⟩
        rw [hm]; rfl
      have hdg : digN ((p.take (sgN p + d) ++ 32 :: z).drop (sgN p)) = d := by
       rw [drop_take_app (by omega) (by omega), digN_le_take (by omega), hd]
      have : expN (c :: (p.take (sgN p + d) ++ 32 :: z)) = if c.toNat = 101 then (if digN ((p.take (sgN p + d) ++ 32 :: z).drop (sgN (p.take (sgN p + d) ++ 32 :: z))) = 0 then 0 else 1 + sgN (p.take (sgN p + d) ++ 32 :: z) + digN ((p.take (sgN p + d) ++ 32 :: z).drop (sgN (p.take (sgN p + d) ++ 32 :: z)))) else 0 := rfl
      rw [this, if_pos hc, hs, hdg, if_neg h0]; omega
  · have e : expN (c :: p) = 0 := if_neg hc
    rw [e]; rfl
theorem num_blank {L z : BL} : numN (L.take (numN L).2 ++ 32 :: z) = numN L := by
 have hle := numN_le L
 obtain ⟨n1, h1⟩ : ∃ n, digN L = n := ⟨_, rfl⟩
 have hn1 := digN_le L
 rw [h1] at hn1
 by_cases hA : n1 = 0 ∨ L[n1]? ≠ some 46 ∨ digN (L.drop (n1 + 1)) = 0
 · have e : numN L = (3, n1) := by unfold numN; rw [h1, if_pos hA]
   rw [e]
   show numN (L.take n1 ++ 32 :: z) = (3, n1)
   have hd : digN (L.take n1 ++ 32 :: z) = n1 := by rw [digN_le_take (by omega), h1]
   unfold numN
   rw [hd, if_pos]
   refine .inr (.inl ?_)
   rw [List.getElem?_append_right (by rw [List.length_take]; omega), List.length_take, Nat.min_eq_left hn1, Nat.sub_self]
   simp
 · obtain ⟨n2, h2⟩ : ∃ n, digN (L.drop (n1 + 1)) = n := ⟨_, rfl⟩
   obtain ⟨x, hx⟩ : ∃ x, expN (L.drop (n1 + 1 + n2)) = x := ⟨_, rfl⟩
   have e : numN L = (4, n1 + 1 + n2 + x) := by unfold numN; rw [h1, if_neg hA, h2, hx]
   rw [e] at hle ⊢
   simp only at hle ⊢
   rw [h2] at hA
   have hlt : n1 < L.length := by
    rcases Nat.lt_or_ge n1 L.length with h | h
    · exact h
    · exact absurd (.inr (.inl (by rw [List.getElem?_eq_none h]; simp))) hA
   have hd : digN (L.take (n1 + 1 + n2 + x) ++ 32 :: z) = n1 := by rw [digN_le_take (by omega), h1]
   have hg : (L.take (n1 + 1 + n2 + x) ++ 32 :: z)[n1]? = L[n1]? := get_take (by omega) hlt
   have hd2 : digN ((L.take (n1 + 1 + n2 + x) ++ 32 :: z).drop (n1 + 1)) = n2 := by
    rw [drop_take_app (by omega) hle, digN_le_take (by omega), h2]
   have hx2 : expN ((L.take (n1 + 1 + n2 + x) ++ 32 :: z).drop (n1 + 1 + n2)) = x := by
    rw [drop_take_app (by omega) hle, show n1 + 1 + n2 + x - (n1 + 1 + n2) = expN (L.drop (n1 + 1 + n2)) by omega, expN_blank, hx]
   unfold numN
   rw [hd, hg, hd2, if_neg hA, hx2]
/-- What is a token is one with a blank behind it. -/
theorem take_free {eF : BL → Int} {L : BL} {k n : Nat} (h : takeV eF L = (0, k, n)) (hn : 0 < n) (z : BL) : takeV eF (L.take n ++ 32 :: z) = (0, k, n) ∧ (L.take n).length = n := by
 have hnl : n ≤ L.length := by have := takeV_le eF L; rwa [h] at this
 refine ⟨?_, by rw [List.length_take]; omega⟩
 obtain ⟨c, r, rfl⟩ : ∃ c r, L = c :: r := by
  cases L with
  | nil => simp at hnl; omega
  | cons c r => exact ⟨c, r, rfl⟩
 obtain ⟨m, rfl⟩ : ∃ m, n = m + 1 := ⟨n - 1, by omega⟩
 by_cases hs : 0 < speltN (c :: r)
 · unfold takeV at h
   rw [if_pos hs] at h
   have hn2 : m + 1 = speltN (c :: r) := by
    split at h
    · exact (congrArg (fun x => x.2.2) h).symm
    · split at h
      · exact (congrArg (fun x => x.2.2) h).symm
      · split at h
        · exact (congrArg (fun x => x.2.2) h).symm
        · exact (congrArg (fun x => x.2.2) h).symm
   obtain ⟨e1, e2⟩ := spelt_blank hs (z := z)
   rw [hn2]
   unfold takeV
   rw [e1, if_pos hs, e2]
   rw [hn2] at h
   exact h
 · have hs0 : speltN (c :: r) = 0 := by omega
   have hl := speltZ.1 hs0
   have hs1 : speltN ((c :: r).take (m + 1) ++ 32 :: z) = 0 := by rw [List.take_succ_cons, List.cons_append]; exact speltZ.2 hl
   unfold takeV at h ⊢
   rw [if_neg hs] at h
   rw [if_neg (by omega)]
   by_cases hnum : 0 < (numN (c :: r)).2
   · rw [if_pos hnum] at h
     have hn2 : m + 1 = (numN (c :: r)).2 := by
      have := congrArg (fun x => x.2.2) h; exact this.symm
     have hle := numN_le (c :: r)
     have e1 : numN ((c :: r).take (m + 1) ++ 32 :: z) = numN (c :: r) := by rw [hn2]; exact num_blank
     rw [e1, if_pos hnum]
     rw [show ((c :: r).take (m + 1) ++ 32 :: z).take (numN (c :: r)).2 = (c :: r).take (numN (c :: r)).2 by
      rw [hn2]; exact List.take_left' (by rw [List.length_take]; omega)]
     exact h
   · rw [if_neg hnum] at h
     have hd0 := num_zero.1 (by omega : (numN (c :: r)).2 = 0)
     have hdg := digN_zero.1 hd0
     rw [if_neg (by
      have : (numN ((c :: r).take (m + 1) ++ 32 :: z)).2 = 0 := num_zero.2 (by rw [List.take_succ_cons, List.cons_append]; exact digN_zero.2 hdg)
      omega)]
     cases hq : quotV (c :: r) with
     | some vn =>
      obtain ⟨v, q⟩ := vn
      rw [hq] at h
      have hq2 : q = m + 1 := congrArg (fun x => x.2.2) h
      subst hq2
      rw [quotV_take hq (List.take_left' (by rw [List.length_take]; omega))]
      exact h
     | none =>
      rw [hq] at h
      simp only at h
      by_cases h59 : (c :: r).head? = some 59
      · rw [if_pos h59] at h
        have hc : c = 59 := by simpa using h59
        subst hc
        cases h
        rfl
      · rw [if_neg h59] at h
        by_cases hm : 0 < markN (c :: r)
        · rw [if_pos hm] at h
          have hm2 : m + 1 = markN (c :: r) := (congrArg (fun x => x.2.2) h).symm
          obtain ⟨e1, e2, w, hw, e3⟩ := mark_blank hm (z := z)
          obtain ⟨c', r', rfl, d1, d2, _, _⟩ := mark_heads w hw
          have hcc : c' = c := by
           rw [← hm2, List.take_succ_cons] at e3
           exact (List.cons.inj e3).1.symm
          subst hcc
          rw [List.take_succ_cons, List.cons_append, quotV_head d1]
          simp only
          rw [if_neg (by intro e; have : c' = 59 := by simpa using e
                         subst this; exact d2 rfl)]
          rw [← List.cons_append, ← List.take_succ_cons, hm2, e1, if_pos hm]
          rw [← hm2] at h ⊢
          exact h
        · rw [if_neg hm] at h; cases h
/-- What the lexer tells may be told again. -/
theorem lex_run (eF : BL → Int) (L : BL) : ∀ (f at_ : Nat) (acc : List Tk) (last : Option Tk) (l : List Tk), L.length - at_ ≤ f → lexV eF L at_ acc last = .ok l → ∃ r, l = acc ++ r ∧ Run eF last r := by
 have hend : ∀ (acc : List Tk) (last : Option Tk) (l : List Tk), .ok (closeV acc last) = (.ok l : Except (Nat × Int) (List Tk)) → ∃ r, l = acc ++ r ∧ Run eF last r := by
  intro acc last l h
  unfold closeV at h
  cases last with
  | none => cases h; exact ⟨[], by simp, .nil (fun t ht => by cases ht)⟩
  | some t =>
   simp only at h
   split at h
   · rename_i he; cases h; exact ⟨_, rfl, .semi he (.nil (fun t ht => by cases ht))⟩
   · rename_i he; cases h; exact ⟨[], by simp, .nil (fun u hu => by cases hu; simpa using he)⟩
 intro f
 induction f with
 | zero =>
  intro at_ acc last l hf h
  rw [lexV_nil (List.drop_of_length_le (by omega))] at h
  exact hend acc last l h
 | succ f ih =>
  intro at_ acc last l hf h
  cases hd : L.drop at_ with
  | nil => rw [lexV_nil hd] at h; exact hend acc last l h
  | cons c r =>
   obtain ⟨hlen, hdr⟩ := drop_len hd
   rw [lexV_cons hd] at h
   split at h
   · exact ih _ acc last l (by omega) h
   · split at h
     · obtain ⟨q, e1, e2⟩ := ih _ _ _ l (by omega) h
       unfold closeV at e1
       cases last with
       | none => exact ⟨q, e1, .skip (fun t ht => by cases ht) e2⟩
       | some t =>
        simp only at e1
        split at e1
        · rename_i he; exact ⟨⟨7, [], t.ed, t.ed⟩ :: q, by rw [e1, List.append_assoc]; rfl, .semi he e2⟩
        · rename_i he; exact ⟨q, e1, .skip (fun u hu => by cases hu; simpa using he) e2⟩
     · split at h
       · exact ih _ acc last l (by omega) h
       · split at h
         · rename_i hb hc hcom ht
           obtain ⟨q, e1, e2⟩ := ih _ _ _ l (by omega) h
           refine ⟨_ :: q, by rw [e1, List.append_assoc]; rfl, .tok ?_ e2⟩
           obtain ⟨k, m, hkm⟩ : ∃ k m, takeV eF (c :: r) = (0, k, m) := ⟨_, _, by rw [← ht.1]⟩
           rw [hkm] at ht
           simp only [hkm]
           have hm : 0 < m := ht.2
           obtain ⟨n, rfl⟩ : ∃ n, m = n + 1 := ⟨m - 1, by omega⟩
           refine ⟨⟨c, r.take n, rfl, by simpa using hb, hc, fun hh => hcom ⟨hh.1, ?_⟩⟩, fun z => ?_⟩
           · cases n with
             | zero => simp at hh
             | succ n => cases r with
              | nil => simp at hh
              | cons x r => simpa using hh.2
           · obtain ⟨e3, e4⟩ := take_free hkm hm z
             show takeV eF ((c :: r).take (n + 1) ++ 32 :: z) = (0, k, ((c :: r).take (n + 1)).length)
             rw [e4]; exact e3
         · cases h
/-- The error is one, and its place is within. -/
theorem take_pos {eF : BL → Int} {L : BL} (hL : L ≠ []) (h : (takeV eF L).1 = 0) : 0 < (takeV eF L).2.2 := by
 unfold takeV at h ⊢
 split
 · rename_i hs
   split
   · exact hs
   · split
     · exact hs
     · split <;> exact hs
 · rename_i hs
   rw [if_neg hs] at h
   split
   · rename_i hn; exact hn
   · rename_i hn
     rw [if_neg hn] at h
     cases hq : quotV L with
     | some vn => obtain ⟨v, n⟩ := vn; exact Nat.lt_trans Nat.zero_lt_one (quotV_le hq).1
     | none =>
      rw [hq] at h
      simp only at h ⊢
      split
      · exact Nat.zero_lt_one
      · rename_i h5
        rw [if_neg h5] at h
        split
        · rename_i hm; exact hm
        · rename_i hm; rw [if_neg hm] at h; exact absurd h (by decide)
theorem lex_err (eF : BL → Int) (L : BL) : ∀ (f at_ : Nat) (acc : List Tk) (last : Option Tk) (p : Nat) (e : Int), L.length - at_ ≤ f → lexV eF L at_ acc last = .error (p, e) → p < L.length ∧ e ≠ 0 := by
 intro f
 induction f with
 | zero =>
  intro at_ acc last p e hf h
  rw [lexV_nil (List.drop_of_length_le (by omega))] at h; cases h
 | succ f ih =>
  intro at_ acc last p e hf h
  cases hd : L.drop at_ with
  | nil => rw [lexV_nil hd] at h; cases h
  | cons c r =>
   obtain ⟨hlen, hdr⟩ := drop_len hd
   rw [lexV_cons hd] at h
   split at h
   · exact ih _ _ _ _ _ (by omega) h
   · split at h
     · exact ih _ _ _ _ _ (by omega) h
     · split at h
       · exact ih _ _ _ _ _ (by omega) h
       · split at h
         · exact ih _ _ _ _ _ (by omega) h
         · rename_i ht
           cases h
           exact ⟨by omega, fun he => ht ⟨he, take_pos (by simp) he⟩⟩
theorem okC_take : ∀ {n lo hi : Nat} {r r' : BL}, okC lo hi n r = true → r'.take n = r.take n → okC lo hi n r' = true
 | 0, _, _, _, _, _, _ => by simp [okC]
 | n + 1, lo, hi, r, r', h, e => by
  cases r with
  | nil => simp [okC] at h
  | cons x r =>
   cases r' with
   | nil => simp at e
   | cons y r' =>
    simp only [List.take_succ_cons, List.cons.injEq] at e
    obtain ⟨rfl, e⟩ := e
    simp only [okC, Bool.and_eq_true] at h ⊢
    exact ⟨h.1, okC_take h.2 e⟩
theorem stepV_take {L L' : BL} {n : Nat} (h : stepV L = n) (hn : n ≠ 0) (e : L'.take n = L.take n) : stepV L' = n := by
 obtain ⟨m, rfl⟩ : ∃ m, n = m + 1 := ⟨n - 1, by omega⟩
 cases L with
 | nil => exact absurd h (by simp [stepV])
 | cons c r =>
  cases L' with
  | nil => simp at e
  | cons c' r' =>
   simp only [List.take_succ_cons, List.cons.injEq] at e
   obtain ⟨rfl, e⟩ := e
   have e1 : ∀ r, stepV (c' :: r) = if c'.toNat < 128 then 1 else if (hdC c'.toNat).1 ≠ 0 ∧ okC (hdC c'.toNat).2.1 (hdC c'.toNat).2.2 (hdC c'.toNat).1 r = true then (hdC c'.toNat).1 + 1 else 0 := fun r => rfl
   rw [e1] at h ⊢
   split at h
   · rename_i q; rw [if_pos q]; exact h
   · rename_i q
     rw [if_neg q]
     split at h
     · rename_i q2
       have hm : (hdC c'.toNat).1 = m := by omega
       rw [if_pos ⟨q2.1, okC_take q2.2 (by rw [hm]; exact e)⟩]; exact h
     · omega
theorem okC_ge : ∀ {n lo hi j : Nat} {r : BL}, okC lo hi n r = true → 128 ≤ lo → j < n → ∃ c, r[j]? = some c ∧ 128 ≤ c.toNat
 | 0, _, _, _, _, _, _, h => by omega
 | n + 1, lo, hi, j, r, h, hlo, hj => by
  cases r with
  | nil => simp [okC] at h
  | cons x r =>
   simp only [okC, Bool.and_eq_true, decide_eq_true_eq] at h
   cases j with
   | zero => exact ⟨x, rfl, by omega⟩
   | succ j =>
    obtain ⟨c, h1, h2⟩ := okC_ge h.2 (Nat.le_refl _) (by omega : j < n)
    exact ⟨c, by simpa using h1, h2⟩
theorem hdC_lo (c : Nat) : 128 ≤ (hdC c).2.1 := by
 unfold hdC
 repeat' split
 all_goals decide
theorem stepV_ge {L : BL} {j : Nat} (hj : 0 < j) (h : j < stepV L) : ∃ c, L[j]? = some c ∧ 128 ≤ c.toNat := by
 cases L with
 | nil => simp [stepV] at h
 | cons c r =>
  obtain ⟨i, rfl⟩ : ∃ i, j = i + 1 := ⟨j - 1, by omega⟩
  have e1 : stepV (c :: r) = if c.toNat < 128 then 1 else if (hdC c.toNat).1 ≠ 0 ∧ okC (hdC c.toNat).2.1 (hdC c.toNat).2.2 (hdC c.toNat).1 r = true then (hdC c.toNat).1 + 1 else 0 := rfl
  rw [e1] at h
  split at h
  · omega
  · split at h
    · rename_i q
      obtain ⟨x, h1, h2⟩ := okC_ge q.2 (hdC_lo _) (by omega : i < (hdC c.toNat).1)
      exact ⟨x, by simpa using h1, h2⟩
    · omega
theorem okV_app : ∀ (f : Nat) (x y : BL), x.length ≤ f → okV x → okV y → okV (x ++ y) := by
 intro f
 induction f with
 | zero =>
  intro x y hf hx hy
  have : x = [] := List.eq_nil_of_length_eq_zero (by omega)
  subst this; exact hy
 | succ f ih =>
  intro x y hf hx hy
  by_cases hn : x = []
  · subst hn; exact hy
  · obtain ⟨h1, h2⟩ := (okV_step hn).1 hx
    have hle := stepV_le x
    have hst : stepV (x ++ y) = stepV x := stepV_take rfl h1 (by rw [List.take_append_of_le_length hle])
    rw [okV_step (by simp [hn]), hst]
    refine ⟨h1, ?_⟩
    rw [List.drop_append_of_le_length hle]
    exact ih _ _ (by rw [List.length_drop]; omega) h2 hy
theorem okV_split : ∀ (f : Nat) (x : BL) (c : UInt8) (y : BL), x.length ≤ f → c.toNat < 128 → okV (x ++ c :: y) → okV x ∧ okV y := by
 intro f
 induction f with
 | zero =>
  intro x c y hf hc h
  have : x = [] := List.eq_nil_of_length_eq_zero (by omega)
  subst this; exact ⟨okV_nil, (okV_cons hc).1 h⟩
 | succ f ih =>
  intro x c y hf hc h
  by_cases hn : x = []
  · subst hn; exact ⟨okV_nil, (okV_cons hc).1 h⟩
  · obtain ⟨h1, h2⟩ := (okV_step (by simp)).1 h
    by_cases hle : stepV (x ++ c :: y) ≤ x.length
    · have hst : stepV x = stepV (x ++ c :: y) := stepV_take rfl h1 (by rw [List.take_append_of_le_length hle])
      rw [List.drop_append_of_le_length hle] at h2
      obtain ⟨h3, h4⟩ := ih _ c y (by rw [List.length_drop]; omega) hc h2
      exact ⟨(okV_step hn).2 ⟨by rw [hst]; exact h1, by rw [hst]; exact h3⟩, h4⟩
    · obtain ⟨d, h3, h4⟩ := stepV_ge (L := x ++ c :: y) (j := x.length) (List.length_pos_iff.2 hn) (by omega)
      rw [List.getElem?_append_right (Nat.le_refl _), Nat.sub_self] at h3
      have : c = d := by simpa using h3
      subst this; omega
theorem let_ascii {c : UInt8} (h : isLet c = true) : c.toNat < 128 := by
 simp only [isLet, Bool.or_eq_true, Bool.and_eq_true, decide_eq_true_eq] at h; omega
theorem dig_ascii {c : UInt8} (h : isDig c = true) : c.toNat < 128 := by
 simp only [isDig, Bool.and_eq_true, decide_eq_true_eq] at h; omega
theorem ld_ascii {c : UInt8} (h : isLD c = true) : c.toNat < 128 := by
 unfold isLD at h
 rcases Bool.or_eq_true _ _ ▸ h with h | h
 · exact let_ascii h
 · exact dig_ascii h
theorem takeW_last {p : UInt8 → Bool} {L : BL} (h : 0 < (L.takeWhile p).length) : ∃ c, L[(L.takeWhile p).length - 1]? = some c ∧ p c = true := by
 induction L with
 | nil => simp at h
 | cons a L ih =>
  rw [List.takeWhile_cons] at h ⊢
  split at h
  · rename_i ha
    rw [if_pos ha]
    by_cases h0 : 0 < (L.takeWhile p).length
    · obtain ⟨c, h1, h2⟩ := ih h0
      refine ⟨c, ?_, h2⟩
      rw [List.length_cons, Nat.add_sub_cancel]
      obtain ⟨m, hm⟩ : ∃ m, (L.takeWhile p).length = m + 1 := ⟨_, (Nat.sub_add_cancel h0).symm⟩
      rw [hm] at h1 ⊢
      simpa using h1
    · refine ⟨a, ?_, ha⟩
      rw [List.length_cons, Nat.eq_zero_of_not_pos h0]; rfl
  · simp at h
theorem digN_last {L : BL} (h : 0 < digN L) : ∃ c, L[digN L - 1]? = some c ∧ c.toNat < 128 := by
 obtain ⟨c, h1, h2⟩ := takeW_last (p := isDig) h
 exact ⟨c, h1, dig_ascii h2⟩
theorem num_last {L : BL} (h : 0 < (numN L).2) : ∃ c, L[(numN L).2 - 1]? = some c ∧ c.toNat < 128 := by
 obtain ⟨n1, h1⟩ : ∃ n, digN L = n := ⟨_, rfl⟩
 by_cases hA : n1 = 0 ∨ L[n1]? ≠ some 46 ∨ digN (L.drop (n1 + 1)) = 0
 · have e : numN L = (3, n1) := by unfold numN; rw [h1, if_pos hA]
   rw [e] at h ⊢
   subst h1
   exact digN_last h
 · obtain ⟨n2, h2⟩ : ∃ n, digN (L.drop (n1 + 1)) = n := ⟨_, rfl⟩
   obtain ⟨x, hx⟩ : ∃ x, expN (L.drop (n1 + 1 + n2)) = x := ⟨_, rfl⟩
   have e : numN L = (4, n1 + 1 + n2 + x) := by unfold numN; rw [h1, if_neg hA, h2, hx]
   rw [e]
   have hn2 : 0 < n2 := by rcases Nat.eq_zero_or_pos n2 with h0 | h0
                           · exact absurd (.inr (.inr (h2.trans h0))) hA
                           · exact h0
   by_cases hx0 : x = 0
   · subst hx0
     obtain ⟨c, h3, h4⟩ := digN_last (L := L.drop (n1 + 1)) (by omega)
     rw [h2, List.getElem?_drop] at h3
     exact ⟨c, by rw [← h3]; congr 1; omega, h4⟩
   · cases hr : L.drop (n1 + 1 + n2) with
     | nil => rw [hr] at hx; exact absurd hx.symm hx0
     | cons c p =>
      rw [hr] at hx
      have e2 : expN (c :: p) = if c.toNat = 101 then (if digN (p.drop (sgN p)) = 0 then 0 else 1 + sgN p + digN (p.drop (sgN p))) else 0 := rfl
      rw [e2] at hx
      split at hx
      · split at hx
        · exact absurd hx.symm hx0
        · rename_i hd0
          obtain ⟨y, h3, h4⟩ := digN_last (L := p.drop (sgN p)) (by omega)
          rw [List.getElem?_drop] at h3
          refine ⟨y, ?_, h4⟩
          have hp : (L.drop (n1 + 1 + n2 + 1)) = p := by rw [← List.drop_drop, hr]; rfl
          have h5 : L[n1 + 1 + n2 + 1 + (sgN p + (digN (p.drop (sgN p)) - 1))]? = some y := by rw [← List.getElem?_drop, hp]; exact h3
          rw [← h5]; congr 1
          show n1 + 1 + n2 + x - 1 = _
          omega
      · exact absurd hx.symm hx0
theorem quotAt_last {L : BL} : ∀ (f i : Nat) (b v : BL) (n : Nat), L.length - i ≤ f → quotAt L i b = some (v, n) → L[n - 1]? = some 34 ∧ v.length + i + 1 ≤ b.length + n := by
 intro f
 induction f with
 | zero =>
  intro i b v n hf h
  have := quotAt_le L 0 i b v n hf h
  omega
 | succ f ih =>
  intro i b v n hf h
  have hle := quotAt_le L _ i b v n hf h
  have hiL : i < L.length := by omega
  rw [quotAt, dif_pos hiL] at h
  split at h
  · rename_i q
    cases h
    refine ⟨?_, by omega⟩
    rw [Nat.add_sub_cancel, List.getElem?_eq_getElem hiL]
    exact congrArg some (UInt8.toNat_inj.1 q)
  · split at h
    · cases h
    · split at h
      · cases hes : escV (L.drop (i + 1)) with
        | none => rw [hes] at h; cases h
        | some xm =>
         obtain ⟨x, m⟩ := xm
         rw [hes] at h
         have h' : quotAt L (i + 1 + m) (b ++ [x]) = some (v, n) := h
         have hm := escV_pos hes
         obtain ⟨h1, h2⟩ := ih _ _ v n (by omega) h'
         rw [List.length_append] at h2
         simp only [List.length_cons, List.length_nil] at h2
         exact ⟨h1, by omega⟩
      · obtain ⟨h1, h2⟩ := ih _ _ v n (by omega) h
        rw [List.length_append] at h2
        simp only [List.length_cons, List.length_nil] at h2
        exact ⟨h1, by omega⟩
theorem quotV_last {L v : BL} {n : Nat} (h : quotV L = some (v, n)) : L[n - 1]? = some 34 ∧ v.length + 2 ≤ n ∧ L.head? = some 34 := by
 unfold quotV at h
 split at h
 · cases h
 · rename_i c r
   split at h
   · rename_i hc
     obtain ⟨h1, h2⟩ := quotAt_last _ _ _ _ _ (Nat.le_refl _) h
     exact ⟨h1, by simp at h2; omega, congrArg some (UInt8.toNat_inj.1 hc)⟩
   · cases h
theorem spelt_last {L : BL} (h : 0 < speltN L) : ∃ c, L[speltN L - 1]? = some c ∧ c.toNat < 128 := by
 cases L with
 | nil => exact absurd h (by decide)
 | cons c r =>
  have e : speltN (c :: r) = if isLet c then ((c :: r).takeWhile isLD).length else 0 := rfl
  rw [e] at h ⊢
  split at h
  · rename_i hc
    rw [if_pos hc]
    obtain ⟨d, h1, h2⟩ := takeW_last (p := isLD) h
    exact ⟨d, h1, ld_ascii h2⟩
  · omega
theorem mark_last {L : BL} (h : 0 < markN L) : ∃ c, L[markN L - 1]? = some c ∧ c.toNat < 128 := by
 obtain ⟨_, e2, w, hw, e3⟩ := mark_blank h (z := [])
 have hall : ∀ m ∈ marks2 ++ marks1, ∀ c ∈ m, c.toNat < 128 := by decide
 have hl : (L.take (markN L)).length = markN L := e2
 obtain ⟨c, hc⟩ : ∃ c, (L.take (markN L))[markN L - 1]? = some c := ⟨_, List.getElem?_eq_getElem (by omega)⟩
 refine ⟨c, ?_, ?_⟩
 · rw [List.getElem?_take, if_pos (by omega)] at hc; exact hc
 · rw [e3] at hc
   exact hall w hw c (List.mem_of_getElem? hc)
theorem take_last {eF : BL → Int} {L : BL} {k n : Nat} (h : takeV eF L = (0, k, n)) (hn : 0 < n) : (∃ c, L[n - 1]? = some c ∧ c.toNat < 128) ∧ ∃ c r, L = c :: r ∧ c.toNat < 128 := by
 have hnl : n ≤ L.length := by have := takeV_le eF L; rwa [h] at this
 obtain ⟨c, r, rfl⟩ : ∃ c r, L = c :: r := by
  cases L with
  | nil => simp at hnl; omega
  | cons c r => exact ⟨c, r, rfl⟩
 by_cases hs : 0 < speltN (c :: r)
 · unfold takeV at h
   rw [if_pos hs] at h
   have hn2 : n = speltN (c :: r) := by
    split at h
    · exact (congrArg (fun x => x.2.2) h).symm
    · split at h
      · exact (congrArg (fun x => x.2.2) h).symm
      · split at h
        · exact (congrArg (fun x => x.2.2) h).symm
        · exact (congrArg (fun x => x.2.2) h).symm
   rw [hn2]
   refine ⟨spelt_last hs, c, r, rfl, ?_⟩
   cases hc : isLet c with
   | true => exact let_ascii hc
   | false => rw [speltZ.2 hc] at hs; omega
 · unfold takeV at h
   rw [if_neg hs] at h
   by_cases hnum : 0 < (numN (c :: r)).2
   · rw [if_pos hnum] at h
     have hn2 : n = (numN (c :: r)).2 := (congrArg (fun x => x.2.2) h).symm
     rw [hn2]
     refine ⟨num_last hnum, c, r, rfl, ?_⟩
     cases hc : isDig c with
     | true => exact dig_ascii hc
     | false => rw [num_zero.2 (digN_zero.2 hc)] at hnum; omega
   · rw [if_neg hnum] at h
     cases hq : quotV (c :: r) with
     | some vn =>
      obtain ⟨v, q⟩ := vn
      rw [hq] at h
      have hq2 : q = n := congrArg (fun x => x.2.2) h
      subst hq2
      obtain ⟨h1, h2, h3⟩ := quotV_last hq
      refine ⟨⟨34, h1, by decide⟩, c, r, rfl, ?_⟩
      have : c = 34 := by simpa using h3
      subst this; decide
     | none =>
      rw [hq] at h
      simp only at h
      by_cases h59 : (c :: r).head? = some 59
      · rw [if_pos h59] at h
        have hc : c = 59 := by simpa using h59
        subst hc
        cases h
        exact ⟨⟨59, rfl, by decide⟩, 59, r, rfl, by decide⟩
      · rw [if_neg h59] at h
        by_cases hm : 0 < markN (c :: r)
        · rw [if_pos hm] at h
          have hm2 : n = markN (c :: r) := (congrArg (fun x => x.2.2) h).symm
          obtain ⟨_, e2, w, hw, e3⟩ := mark_blank hm (z := [])
          have hall : ∀ m ∈ marks2 ++ marks1, ∀ c ∈ m, c.toNat < 128 := by decide
          rw [hm2]
          refine ⟨mark_last hm, c, r, rfl, ?_⟩
          obtain ⟨q, hq⟩ : ∃ q, markN (c :: r) = q + 1 := ⟨markN (c :: r) - 1, by omega⟩
          rw [hq, List.take_succ_cons] at e3
          exact hall w hw c (by rw [← e3]; simp)
        · rw [if_neg hm] at h; cases h
theorem take_ok {eF : BL → Int} {L : BL} {k n : Nat} (h : takeV eF L = (0, k, n)) (hn : 0 < n) (hL : okV L) : okV (L.take n) := by
 obtain ⟨⟨c, hc, h1⟩, _⟩ := take_last h hn
 have hlt : n - 1 < L.length := (List.getElem?_eq_some_iff.1 hc).1
 have hsp : L = L.take (n - 1) ++ c :: L.drop n := by
  have h2 := List.take_append_drop (n - 1) L
  rw [List.drop_eq_getElem_cons hlt, (List.getElem?_eq_some_iff.1 hc).2, Nat.sub_add_cancel hn] at h2
  exact h2.symm
 have h3 := okV_split _ _ c _ (Nat.le_refl _) h1 (hsp ▸ hL)
 have : L.take n = L.take (n - 1) ++ [c] := by
  have h4 := congrArg (List.take n) hsp
  rw [List.take_append, List.take_take, List.length_take, Nat.min_eq_left (by omega : n - 1 ≤ L.length), Nat.min_eq_right (by omega : n - 1 ≤ n), show n - (n - 1) = 1 by omega] at h4
  simpa using h4
 rw [this]
 exact okV_app _ _ _ (Nat.le_refl _) h3.1 ((okV_cons h1).2 okV_nil)
/-- Each token's text is made of code points, and how long they are, written again. -/
theorem lex_ok (eF : BL → Int) (L : BL) (hL : okV L) : ∀ (f at_ : Nat) (acc : List Tk) (last : Option Tk) (l : List Tk), L.length - at_ ≤ f → lexV eF L at_ acc last = .ok l →
  ∃ r, l = acc ++ r ∧ (∀ t ∈ r, okV t.text) ∧ (againV r).length ≤ 3 * (L.length - at_) + (if last = none then 0 else 1) ∧ r.length ≤ 2 * (L.length - at_) + (if last = none then 0 else 1) := by
 have hend : ∀ (acc : List Tk) (last : Option Tk) (l : List Tk) (m : Nat), .ok (closeV acc last) = (.ok l : Except (Nat × Int) (List Tk)) →
   ∃ r, l = acc ++ r ∧ (∀ t ∈ r, okV t.text) ∧ (againV r).length ≤ 3 * m + (if last = none then 0 else 1) ∧ r.length ≤ 2 * m + (if last = none then 0 else 1) := by
  intro acc last l m h
  unfold closeV at h
  cases last with
  | none => cases h; exact ⟨[], by simp, by simp, by simp [againV], by simp⟩
  | some t =>
   simp only at h
   split at h
   · cases h
     refine ⟨_, rfl, ?_, by simp [againV], by simp⟩
     intro u hu
     rw [List.mem_singleton.1 hu]; exact okV_nil
   · cases h; exact ⟨[], by simp, by simp, by simp [againV], by simp⟩
 intro f
 induction f with
 | zero =>
  intro at_ acc last l hf h
  rw [lexV_nil (List.drop_of_length_le (by omega))] at h
  exact hend acc last l _ h
 | succ f ih =>
  intro at_ acc last l hf h
  cases hd : L.drop at_ with
  | nil => rw [lexV_nil hd] at h; exact hend acc last l _ h
  | cons c r =>
   obtain ⟨hlen, hdr⟩ := drop_len hd
   rw [lexV_cons hd] at h
   split at h
   · obtain ⟨q, e1, e2, e3, e4⟩ := ih _ acc last l (by omega) h
     exact ⟨q, e1, e2, by omega, by omega⟩
   · split at h
     · obtain ⟨q, e1, e2, e3, e4⟩ := ih _ _ _ l (by omega) h
       simp only [if_true] at e3 e4
       unfold closeV at e1
       cases last with
       | none => exact ⟨q, e1, e2, by simp; omega, by simp; omega⟩
       | some t =>
        simp only at e1
        split at e1
        · refine ⟨⟨7, [], t.ed, t.ed⟩ :: q, by rw [e1, List.append_assoc]; rfl, ?_, ?_, ?_⟩
          · intro u hu
            rcases List.mem_cons.1 hu with rfl | hu
            · exact okV_nil
            · exact e2 u hu
          · simp [againV]; omega
          · simp; omega
        · exact ⟨q, e1, e2, by simp; omega, by simp; omega⟩
     · split at h
       · obtain ⟨q, e1, e2, e3, e4⟩ := ih _ acc last l (by omega) h
         exact ⟨q, e1, e2, by omega, by omega⟩
       · split at h
         · rename_i hb hc hcom ht
           obtain ⟨q, e1, e2, e3, e4⟩ := ih _ _ _ l (by omega) h
           obtain ⟨k, m, hkm⟩ : ∃ k m, takeV eF (c :: r) = (0, k, m) := ⟨_, _, by rw [← ht.1]⟩
           rw [hkm] at ht
           simp only [hkm] at e1 e3 e4
           have hm : 0 < m := ht.2
           have hle := takeV_le eF (c :: r)
           rw [hkm] at hle
           simp only [List.length_cons] at hle
           obtain ⟨_, c', r', hcr, hca⟩ := take_last hkm hm
           cases hcr
           have hokd : okV (c :: r) := by
            have h5 : L = L.take at_ ++ c :: r := by rw [← hd, List.take_append_drop]
            exact (okV_cons hca).2 (okV_split _ _ c r (Nat.le_refl _) hca (h5 ▸ hL)).2
           have hne : ((c :: r).take m).length = m := by rw [List.length_take, List.length_cons]; omega
           refine ⟨_ :: q, by rw [e1, List.append_assoc]; rfl, ?_, ?_, ?_⟩
           · intro u hu
             rcases List.mem_cons.1 hu with rfl | hu
             · exact take_ok hkm hm hokd
             · exact e2 u hu
           · simp only [againV, reduceCtorEq, if_false] at e3 ⊢
             rw [List.length_append]
             split
             · rename_i h7
               have : ((c :: r).take m).length = 0 := by rw [h7.2]; rfl
               omega
             · rw [List.length_append, hne]; simp only [List.length_cons, List.length_nil]; split <;> omega
           · simp only [List.length_cons, reduceCtorEq, if_false] at e4 ⊢
             split <;> omega
         · cases h
theorem again_ok : ∀ {l : List Tk}, (∀ t ∈ l, okV t.text) → okV (againV l)
 | [], _ => okV_nil
 | t :: l, h => by
  unfold againV
  refine okV_app _ _ _ (Nat.le_refl _) ?_ (again_ok (fun u hu => h u (by simp [hu])))
  split
  · exact (okV_cons (by decide)).2 okV_nil
  · exact okV_app _ _ _ (Nat.le_refl _) (h t (by simp)) ((okV_cons (by decide)).2 okV_nil)
theorem name_is {L : BL} (h : nameV L = true) : NameIs L := by
 unfold nameV at h
 simp only [Bool.and_eq_true, decide_eq_true_eq, Bool.not_eq_true', decide_eq_false_iff_not, List.isEmpty_eq_false_iff] at h
 exact ⟨h.1.1.1.1, h.1.1.1.2, h.1.1.2, h.1.2, h.2⟩
theorem NameIs.asc {L : BL} (h : NameIs L) : okV L := okV_ascii (fun c hc => ld_ascii (((spelt_all h.ne).1 h.sp).2 c hc))
/-- A text that is one token. -/
theorem lex_alone {eF : BL → Int} {L : BL} {k : Nat} {at_ : Nat} {A : BL} {acc : List Tk} {last : Option Tk} (hd : ∃ c r, L = c :: r ∧ isBl c = false ∧ c.toNat ≠ 10 ∧ c.toNat ≠ 47) (h : takeV eF L = (0, k, L.length))
  (he : endsV ⟨k, L, at_, at_ + L.length⟩ = true) (hA : A.drop at_ = L) :
  lexV eF A at_ acc last = .ok (acc ++ [⟨k, L, at_, at_ + L.length⟩, ⟨7, [], at_ + L.length, at_ + L.length⟩]) := by
 obtain ⟨c, r, rfl, h1, h2, h3⟩ := hd
 rw [lexV_cons hA, if_neg (by rw [h1]; simp), if_neg h2, if_neg (by intro e; exact h3 e.1), h, if_pos ⟨rfl, by simp⟩]
 simp only
 rw [List.take_of_length_le (Nat.le_refl _)]
 rw [lexV_nil (by rw [← List.drop_drop, hA]; simp)]
 unfold closeV
 simp only [he, if_true]
 rw [List.append_assoc]; rfl
theorem lex_name {eF : BL → Int} {L : BL} (h : NameIs L) : lexV eF L 0 [] none = .ok [⟨1, L, 0, L.length⟩, ⟨7, [], L.length, L.length⟩] := by
 have := lex_alone (eF := eF) (acc := []) (last := none) (at_ := 0) (A := L) h.hd (h.tk eF) (by rfl) rfl
 simpa using this
theorem lex_names {eF : BL → Int} {L M : BL} (h : NameIs L) (g : NameIs M) : ∃ a b c d, lexV eF (L ++ 32 :: M) 0 [] none = .ok [⟨1, L, 0, a⟩, ⟨1, M, b, c⟩, ⟨7, [], d, d⟩] := by
 obtain ⟨c, r, hL, h1, h2, h3⟩ := h.hd
 have hp : 0 < L.length := List.length_pos_iff.2 h.ne
 obtain ⟨e1, e2⟩ := take_free (h.tk eF) hp M
 rw [List.take_of_length_le (Nat.le_refl _)] at e1
 have hd : (L ++ 32 :: M).drop 0 = c :: (r ++ 32 :: M) := by rw [hL]; rfl
 refine ⟨L.length, L.length + 1, L.length + 1 + M.length, L.length + 1 + M.length, ?_⟩
 rw [lexV_cons hd, if_neg (by rw [h1]; simp), if_neg h2, if_neg (by intro e; exact h3 e.1)]
 rw [show c :: (r ++ 32 :: M) = L ++ 32 :: M by rw [hL]; rfl, e1, if_pos ⟨rfl, hp⟩]
 simp only [List.take_left, Nat.zero_add, List.nil_append]
 rw [lexV_cons (at_ := L.length) (c := 32) (r := M) (by simp), if_pos (by decide)]
 have := lex_alone (eF := eF) (acc := [⟨1, L, 0, L.length⟩]) (last := some ⟨1, L, 0, L.length⟩) (at_ := L.length + 1) (A := L ++ 32 :: M) g.hd (g.tk eF) (by rfl) (by rw [← List.drop_drop]; simp)
 rw [this]; rfl
theorem lex_value {eF : BL → Int} {L v : BL} {n : Nat} (hq : quotV L = some (v, n)) (hn : n = L.length) (hv : v.length ≤ 4096) : lexV eF L 0 [] none = .ok [⟨5, L, 0, L.length⟩, ⟨7, [], L.length, L.length⟩] := by
 obtain ⟨h1, h2, h3⟩ := quotV_last hq
 cases L with
 | nil => simp at h3
 | cons c r =>
  have hc : c = 34 := by simpa using h3
  subst hc
  have ht : takeV eF (34 :: r) = (0, 5, (34 :: r).length) := by
   unfold takeV
   rw [speltZ.2 (by decide), if_neg (by omega), num_zero.2 (digN_zero.2 (by decide)), if_neg (by omega), hq]
   simp only
   rw [if_neg (by omega), hn]
  have := lex_alone (eF := eF) (acc := []) (last := none) (at_ := 0) (A := 34 :: r) ⟨34, r, rfl, by decide, by decide, by decide⟩ ht (by rfl) rfl
  simpa using this
theorem names_join {L M : BL} (h : NameIs L) (g : NameIs M) : nameV (L ++ M) = (decide (L.length + M.length ≤ 40) && !hasB resW (L ++ M)) := by
 obtain ⟨⟨c, r, hL, hc⟩, hall⟩ := (spelt_all h.ne).1 h.sp
 obtain ⟨_, hall2⟩ := (spelt_all g.ne).1 g.sp
 have hp : 0 < L.length := List.length_pos_iff.2 h.ne
 have hp2 : 0 < M.length := List.length_pos_iff.2 g.ne
 have hne : L ++ M ≠ [] := by simp [h.ne]
 have hsp : speltN (L ++ M) = (L ++ M).length := (spelt_all hne).2 ⟨⟨c, r ++ M, by rw [hL]; rfl, hc⟩, fun x hx => by
  rcases List.mem_append.1 hx with hx | hx
  · exact hall x hx
  · exact hall2 x hx⟩
 have hu : L ++ M ≠ [95] := by
  intro e
  have := congrArg List.length e
  rw [List.length_append] at this
  simp at this; omega
 have he : (L ++ M).isEmpty = false := by rw [List.isEmpty_eq_false_iff]; exact hne
 unfold nameV
 rw [he, hsp, List.length_append]
 simp [hu]
/-- What the document's Next answers. -/
def NextOut (L : BL) (i : Nat) (e : Ending) : Prop := ∃ (k : Nat) (t : ByteArray) (a b : Nat), e = .returned (.tuple #[tokV k t a b, .int .i64 (takeV eFv (L.drop i)).1]) ∧
 ((takeV eFv (L.drop i)).1 = 0 → k = (takeV eFv (L.drop i)).2.1 ∧ t.data.toList = (L.drop i).take (takeV eFv (L.drop i)).2.2 ∧ a = i ∧ b = i + (takeV eFv (L.drop i)).2.2)
theorem next_out {L : BL} {i : Nat} {er : Int} {K n : Nat} {k : Nat} {t : ByteArray} {a b : Nat} (h : takeV eFv (L.drop i) = (er, K, n)) (h2 : er = 0 → k = K ∧ t.data.toList = (L.drop i).take n ∧ a = i ∧ b = i + n) : NextOut L i (.returned (.tuple #[tokV k t a b, .int .i64 er])) :=
 ⟨k, t, a, b, by rw [h], by rw [h]; exact h2⟩
theorem u31 : (match Tryz.prog.underlying 31 with | some (.struct _) => true | _ => false) = true := by kernel_rfl
theorem i31 : (Tryz.prog.info? 31).map (·.size) = some 4 := by kernel_rfl
theorem load_tok31 {w : World} {b : Nat} {x0 x1 x2 x3 : Value} (h : w.heap[b]? = some (.cells #[x0, x1, x2, x3] 31 (0, 0))) : (loadVar 31 ⟨b, 0, none⟩).run Tryz.prog w = .ok (.agg #[x0, x1, x2, x3]) w := by
 have hu := u31
 cases hd : Tryz.prog.underlying 31 with
 | none => rw [hd] at hu; cases hu
 | some d =>
  rw [hd] at hu
  refine run_loadVar_row w b 31 31 _ (0, 0) d h hd ?_ i31
  cases d <;> simp_all
theorem next_end {L : BL} {i : Nat} {w0 W : World} {A : Nat} {tmps : Array Value} {u0 u1 u2 u3 : Value} {k : Nat} {t : ByteArray} {a b : Nat} {er : Int}
  (hA : W.heap[A]? = some (.cells #[u0, u1, u2, u3] 31 (0, 0))) (hle : w0.heap.size ≤ A) (hB : Below w0.heap.size w0 W) (hO : NextOut L i (.returned (.tuple #[tokV k t a b, .int .i64 er])))
  (h2 : tmps.getD 4 undef = .pointer (some ⟨A, 0, none⟩)) (h3 : tmps.getD 5 undef = .int .i64 er) :
  bodyPost Tryz.prog Tryz.f35 (fun e w' => NextOut L i e ∧ Below w0.heap.size w0 w') .ret { tmps := tmps, defers := [] } ((((W.setCell ⟨A, 0, none⟩ (.int .i64 (k : Int))).setCell ⟨A, 1, none⟩ (.string t)).setCell ⟨A, 2, none⟩ (.int .i64 (a : Int))).setCell ⟨A, 3, none⟩ (.int .i64 (b : Int))) := by
 refine bodyPost_ret (v := .tuple #[tokV k t a b, .int .i64 er]) ?_ rfl ⟨hO, four_below hB hle⟩
 rw [results_cell_tmp rfl]
 simp only
 rw [h2, h3, show (asAddr (.pointer (some ⟨A, 0, none⟩))).run Tryz.prog _ = .ok ⟨A, 0, none⟩ _ from rfl]
 simp only [Result.andThen]
 rw [load_tok31 (four_set hA)]
 rfl
theorem ld_in {L : BL} {k : Nat} (h : atB isLD L k = true) : k < L.length ∧ ((L.drop k).takeWhile isLD).length = ((L.drop (k + 1)).takeWhile isLD).length + 1 := by
 unfold atB at h
 split at h
 · rename_i c hc
   have hlt := (List.getElem?_eq_some_iff.1 hc).1
   refine ⟨hlt, ?_⟩
   rw [List.drop_eq_getElem_cons hlt, (List.getElem?_eq_some_iff.1 hc).2, List.takeWhile_cons, if_pos h, List.length_cons]
 · cases h
theorem ld_out {L : BL} {k : Nat} (h : atB isLD L k = false) : ((L.drop k).takeWhile isLD).length = 0 := by
 unfold atB at h
 split at h
 · rename_i c hc
   have hlt := (List.getElem?_eq_some_iff.1 hc).1
   rw [List.drop_eq_getElem_cons hlt, (List.getElem?_eq_some_iff.1 hc).2, List.takeWhile_cons, h]; rfl
 · rename_i hc
   rw [List.drop_of_length_le (List.getElem?_eq_none_iff.1 hc)]; rfl
theorem ld_or (L : BL) (k : Nat) : atB isLD L k = (atB isLet L k || atB isDig L k) := by
 unfold atB; cases L[k]? <;> rfl
theorem spelt_at {L : BL} {i : Nat} : speltN (L.drop i) = if atB isLet L i = true then ((L.drop i).takeWhile isLD).length else 0 := by
 unfold atB
 cases hd : L.drop i with
 | nil =>
  have : L[i]? = none := by rw [List.getElem?_eq_none_iff]; exact List.drop_eq_nil_iff.1 hd
  rw [this]; simp [speltN]
 | cons c r =>
  have hc : L[i]? = some c := by have := congrArg (fun l => l[0]?) hd; simpa using this
  rw [hc]; rfl
theorem exm_list (s : ByteArray) (i n : Nat) : (s.extract i (i + n)).data.toList = (s.data.toList.drop i).take n := by
 rw [ByteArray.data_extract, Array.toList_extract]
 simp [List.extract]
theorem exm_size {s : ByteArray} {i n : Nat} (h : i + n ≤ s.size) : (s.extract i (i + n)).size = n := by
 show (s.extract i (i + n)).data.toList.length = n
 rw [exm_list, List.length_take, List.length_drop]; show min n (s.size - i) = n; omega
set_option maxRecDepth 100000 in
set_option maxHeartbeats 6400000 in
theorem rnext_word (s : ByteArray) (i : Nat) (w : World) (hs : s.size ≤ 999990) (hi : i < s.size) (hlet : atB isLet s.data.toList i = true) :
  Calls Tryz.prog 35 #[.string s, .int .i64 (i : Int)] w fun e w' => NextOut s.data.toList i e ∧ Below w.heap.size w w' := by
 have hsz : s.data.toList.length = s.size := rfl
 have hsp := spelt_at (L := s.data.toList) (i := i)
 rw [if_pos hlet] at hsp
 obtain ⟨n, hn⟩ : ∃ n, speltN (s.data.toList.drop i) = n := ⟨_, rfl⟩
 have hnl := spelt_le (s.data.toList.drop i)
 rw [List.length_drop, hsz, hn] at hnl
 have hnp : 0 < n := by
  have h1 := (ld_in (L := s.data.toList) (k := i) (by rw [ld_or, hlet]; rfl)).2
  omega
 rw [hn] at hsp
 obtain ⟨z, hz⟩ : ∃ z, i + n = z := ⟨_, rfl⟩
 have hzl : z ≤ s.size := by omega
 have htk : takeV eFv (s.data.toList.drop i) = (if hasB resW ((s.data.toList.drop i).take n) then (0, 2, n) else if 40 < n then (3, 1, n) else if (s.data.toList.drop i).take n = [95] then (9, 1, n) else (0, 1, n)) := by
  unfold takeV; rw [hn, if_pos hnp]; rfl
 obtain ⟨T, hT⟩ : ∃ T, s.extract i z = T := ⟨_, rfl⟩
 have hTl : T.data.toList = (s.data.toList.drop i).take n := by rw [← hT, ← hz]; exact exm_list s i n
 have hTs : T.size = n := by rw [← hT, ← hz]; exact exm_size (by omega)
 rw [← hTl] at htk
 have HL := Lib.hid (fun k (hk : k ≤ 1000000) w => rletter s k w (by omega) (by omega))
 have HD := Lib.hid (fun k (hk : k ≤ 1000000) w => rdigit s k w (by omega) (by omega))
 have HR := Lib.hid (fun w => rReserved T w)
 have HL0 := Lib.hid (fun w => HL.out i (by omega) w)
 rw [hlet] at HL0
 have HS0 := Lib.hid (NS.start w i)
 have HST := Lib.hid (show i + ((s.data.toList.drop i).takeWhile isLD).length = z by omega)
 have hiz : i ≤ z := by omega
 have hiz' : (i : Int) ≤ (z : Int) := by omega
 have hzl' : (z : Int) ≤ (s.size : Int) := by omega
 have HTT := Lib.hid hT
 have HTK := Lib.hid htk
 have HTL := Lib.hid hTl
 have HZ := Lib.hid hz
 have HSZ := Lib.hid hsz
 clear hsp hn hnl hlet hT hTl htk hz hsz
 go_enter Tryz.func35, Tryz.ntmps35
 go_wp2_with fail
 refine (HL0.out _).mono ?_
 rintro e w9 ⟨rfl, rfl⟩
 go_wp2_with fail
 obtain ⟨W0, hW0⟩ : ∃ W0, (w.alloc (.cells #[.int .i64 0, .string ⟨#[]⟩, .int .i64 0, .int .i64 0] 31)).alloc (.cells #[.int .i64 0, .string ⟨#[]⟩, .int .i64 (i : Int), .int .i64 0] 31) = W0 := ⟨_, rfl⟩
 rw [hW0] at HS0
 simp only [hW0]
 clear hW0
 go_loopw [8] (fun iv wr => ∃ k : Nat, k ≤ z ∧ iv = .int .i64 k ∧ k + ((s.data.toList.drop k).takeWhile isLD).length = z ∧ wr = W0) (fun iv _ => z - (intOf iv).toNat)
 case atStart => exact ⟨i, hiz, rfl, HST.out, rfl⟩
 case round =>
  obtain ⟨k, hk, rfl, hkz, rfl⟩ := hrel
  have HC1 := Lib.hid (HL.out k (by omega) wr)
  have HC2 := Lib.hid (HD.out k (by omega) wr)
  cases h1 : atB isLet s.data.toList k with
  | true =>
   rw [h1] at HC1
   have h3 := (ld_in (L := s.data.toList) (k := k) (by rw [ld_or, h1]; rfl)).2
   have HK := Lib.hid (show k + 1 + ((s.data.toList.drop (k + 1)).takeWhile isLD).length = z by omega)
   have hk1 : k + 1 ≤ z := by omega
   clear h1 h3 hkz
   go_wp2_with fail
   refine HC1.out.mono ?_
   rintro e w2 ⟨rfl, rfl⟩
   go_wp2_with fail
   go_roundw
   case rel => exact ⟨k + 1, hk1, by go_num, HK.out, trivial⟩
   case measure => simp only [intOf]; omega
  | false =>
   rw [h1] at HC1
   cases h2 : atB isDig s.data.toList k with
   | true =>
    rw [h2] at HC2
    have h3 := (ld_in (L := s.data.toList) (k := k) (by rw [ld_or, h2]; simp)).2
    have HK := Lib.hid (show k + 1 + ((s.data.toList.drop (k + 1)).takeWhile isLD).length = z by omega)
    have hk1 : k + 1 ≤ z := by omega
    clear h1 h2 h3 hkz
    go_wp2_with fail
    refine HC1.out.mono ?_
    rintro e w2 ⟨rfl, rfl⟩
    go_wp2_with fail
    refine HC2.out.mono ?_
    rintro e w2 ⟨rfl, rfl⟩
    go_wp2_with fail
    go_roundw
    case rel => exact ⟨k + 1, hk1, by go_num, HK.out, trivial⟩
    case measure => simp only [intOf]; omega
   | false =>
    rw [h2] at HC2
    have h3 := ld_out (L := s.data.toList) (k := k) (by rw [ld_or, h1, h2]; rfl)
    obtain rfl : k = z := by omega
    have hT := HTT.out
    have HN1 := Lib.hid ((HS0.out.kind 1).to k)
    obtain ⟨a0, a1, a2, a3, az, al⟩ := tcells HS0.out.t
    obtain ⟨b0, b1, b2, b3, bz, bl⟩ := tcells HS0.out.r
    clear h1 h2 h3 hkz HST
    cases hr : hasB resW T.data.toList with
    | true =>
     have HV := Lib.hid (show takeV eFv (s.data.toList.drop i) = (0, 2, n) by rw [HTK.out, hr]; rfl)
     have HRR := Lib.hid HR.out
     rw [hr] at HRR
     clear hr
     go_wp2_with fail
     refine HC1.out.mono ?_
     rintro e w2 ⟨rfl, rfl⟩
     go_wp2_with fail
     refine HC2.out.mono ?_
     rintro e w2 ⟨rfl, rfl⟩
     go_wp2_with fail
     refine (HRR.out _).mono ?_
     rintro e w3 ⟨rfl, hb3⟩
     have HN2 := Lib.hid (HN1.out.later hb3)
     obtain ⟨d0, d1, d2, d3, dz, dl⟩ := tcells HN2.out.t
     obtain ⟨e0, e1, e2, e3, ez, el⟩ := tcells HN2.out.r
     clear hb3
     go_wp2_with fail
     have HN3 := Lib.hid (HN2.out.kind 2)
     exact next_end ((set_other (by omega)).trans HN3.out.r) (Nat.le_refl _) (HN3.out.b.setCell (p := ⟨w.heap.size + 1, 1, none⟩) (by show w.heap.size ≤ w.heap.size + 1; omega) _) (next_out (k := 2) (t := T) (a := i) (b := k) HV.out (fun _ => ⟨rfl, HTL.out, rfl, HZ.out.symm⟩)) rfl rfl
    | false =>
     have HRR := Lib.hid HR.out
     rw [hr] at HRR
     by_cases h40 : 40 < n
     · have h40i : (40 : Int) < (T.size : Int) := by omega
       have HV := Lib.hid (show takeV eFv (s.data.toList.drop i) = (3, 1, n) by rw [HTK.out, hr, if_neg Bool.false_ne_true, if_pos h40])
       clear hr h40
       go_wp2_with fail
       refine HC1.out.mono ?_
       rintro e w2 ⟨rfl, rfl⟩
       go_wp2_with fail
       refine HC2.out.mono ?_
       rintro e w2 ⟨rfl, rfl⟩
       go_wp2_with fail
       refine (HRR.out _).mono ?_
       rintro e w3 ⟨rfl, hb3⟩
       have HN2 := Lib.hid (HN1.out.later hb3)
       obtain ⟨d0, d1, d2, d3, dz, dl⟩ := tcells HN2.out.t
       obtain ⟨e0, e1, e2, e3, ez, el⟩ := tcells HN2.out.r
       clear hb3
       go_wp2_with fail
       exact next_end HN2.out.r (Nat.le_refl _) HN2.out.b (next_out (k := 0) (t := ⟨#[]⟩) (a := 0) (b := 0) HV.out (fun h => absurd h (by decide))) rfl rfl
     · have h40i : ¬ (40 : Int) < (T.size : Int) := by omega
       by_cases hu : T.data.toList = [95]
       · have s1 : T.toList = [95] := (str_eq T _).2 hu
         have s2 : (T.toList == [95]) = true := by rw [s1]; rfl
         have HV := Lib.hid (show takeV eFv (s.data.toList.drop i) = (9, 1, n) by rw [HTK.out, hr, if_neg Bool.false_ne_true, if_neg h40, if_pos hu])
         clear hr h40 hu
         go_wp2_with fail
         refine HC1.out.mono ?_
         rintro e w2 ⟨rfl, rfl⟩
         go_wp2_with fail
         refine HC2.out.mono ?_
         rintro e w2 ⟨rfl, rfl⟩
         go_wp2_with fail
         refine (HRR.out _).mono ?_
         rintro e w3 ⟨rfl, hb3⟩
         have HN2 := Lib.hid (HN1.out.later hb3)
         obtain ⟨d0, d1, d2, d3, dz, dl⟩ := tcells HN2.out.t
         obtain ⟨e0, e1, e2, e3, ez, el⟩ := tcells HN2.out.r
         clear hb3
         go_wp2_with fail
         exact next_end HN2.out.r (Nat.le_refl _) HN2.out.b (next_out (k := 0) (t := ⟨#[]⟩) (a := 0) (b := 0) HV.out (fun h => absurd h (by decide))) rfl rfl
       · have s1 : ¬ T.toList = [95] := fun e => hu ((str_eq T _).1 e)
         have s2 : (T.toList == [95]) = false := by simpa using s1
         have HV := Lib.hid (show takeV eFv (s.data.toList.drop i) = (0, 1, n) by rw [HTK.out, hr, if_neg Bool.false_ne_true, if_neg h40, if_neg hu])
         clear hr h40 hu
         go_wp2_with fail
         refine HC1.out.mono ?_
         rintro e w2 ⟨rfl, rfl⟩
         go_wp2_with fail
         refine HC2.out.mono ?_
         rintro e w2 ⟨rfl, rfl⟩
         go_wp2_with fail
         refine (HRR.out _).mono ?_
         rintro e w3 ⟨rfl, hb3⟩
         have HN2 := Lib.hid (HN1.out.later hb3)
         obtain ⟨d0, d1, d2, d3, dz, dl⟩ := tcells HN2.out.t
         obtain ⟨e0, e1, e2, e3, ez, el⟩ := tcells HN2.out.r
         clear hb3
         go_wp2_with fail
         exact next_end ((set_other (by omega)).trans HN2.out.r) (Nat.le_refl _) (HN2.out.b.setCell (p := ⟨w.heap.size + 1, 1, none⟩) (by show w.heap.size ≤ w.heap.size + 1; omega) _) (next_out (k := 1) (t := T) (a := i) (b := k) HV.out (fun _ => ⟨rfl, HTL.out, rfl, HZ.out.symm⟩)) rfl rfl
set_option maxRecDepth 100000 in
set_option maxHeartbeats 6400000 in
theorem rnext_num (s : ByteArray) (i : Nat) (w : World) (hs : s.size ≤ 999990) (hi : i < s.size) (hlet : atB isLet s.data.toList i = false) (hdig : atB isDig s.data.toList i = true) :
  Calls Tryz.prog 35 #[.string s, .int .i64 (i : Int)] w fun e w' => NextOut s.data.toList i e ∧ Below w.heap.size w w' := by
 have hsz : s.data.toList.length = s.size := rfl
 have hsp := spelt_at (L := s.data.toList) (i := i)
 rw [if_neg (by rw [hlet]; exact Bool.false_ne_true)] at hsp
 have hd0 : 0 < digN (s.data.toList.drop i) := by have := (dig_in hdig).2; omega
 have hnum := fun w => rnumber s i w hs (by omega) hd0
 have hn0 : 0 < (numN (s.data.toList.drop i)).2 := by
  rcases Nat.eq_zero_or_pos (numN (s.data.toList.drop i)).2 with h | h
  · have := num_zero.1 h; omega
  · exact h
 have hle := numN_le (s.data.toList.drop i)
 rw [List.length_drop, hsz] at hle
 have htk := takeV_rest hsp
 rw [if_pos hn0] at htk
 obtain ⟨kd, hkd⟩ : ∃ kd, (numN (s.data.toList.drop i)).1 = kd := ⟨_, rfl⟩
 obtain ⟨n, hn⟩ : ∃ n, (numN (s.data.toList.drop i)).2 = n := ⟨_, rfl⟩
 unfold numOut at hnum
 simp only [hkd, hn] at hnum
 rw [hkd, hn] at htk
 rw [hn] at hle hn0
 obtain ⟨z, hz⟩ : ∃ z, i + n = z := ⟨_, rfl⟩
 simp only [hz] at hnum
 have hzl : z ≤ s.size := by omega
 obtain ⟨T, hT⟩ : ∃ T, s.extract i z = T := ⟨_, rfl⟩
 have hTl : T.data.toList = (s.data.toList.drop i).take n := by rw [← hT, ← hz]; exact exm_list s i n
 have hTs : T.size = n := by rw [← hT, ← hz]; exact exm_size (by omega)
 rw [← hTl] at htk
 have HL0 := Lib.hid (fun w => rletter s i w (by omega) (by omega))
 have HD0 := Lib.hid (fun w => rdigit s i w (by omega) (by omega))
 rw [hlet] at HL0
 rw [hdig] at HD0
 have HNU := Lib.hid hnum
 have HS0 := Lib.hid (NS.start w i)
 have hiz' : (i : Int) ≤ (z : Int) := by omega
 have hzl' : (z : Int) ≤ (s.size : Int) := by omega
 obtain ⟨er, her⟩ : ∃ er, (if kd = 3 then errI T.data.toList else eFv T.data.toList) = er := ⟨_, rfl⟩
 rw [her] at htk
 have HN1 := Lib.hid (NS.begin w kd i z)
 obtain ⟨a0, a1, a2, a3, az, al⟩ := tcells HS0.out.t
 obtain ⟨b0, b1, b2, b3, bz, bl⟩ := tcells HS0.out.r
 have HV := Lib.hid htk
 have HTL := Lib.hid hTl
 have HZ := Lib.hid hz
 by_cases hk3 : kd = 3
 · subst hk3
   rw [if_pos rfl] at her
   have hI : ∀ w, Calls Tryz.prog 61 #[.string T] w fun e w2 => (∃ v : Int, e = .returned (.tuple #[.int .i64 v, .int .i64 er])) ∧ Below w.heap.size w w2 := fun w => by
    rw [← her]
    by_cases hnv : natV T.data.toList = true
    · have h := ref_int_nat T (by omega) hnv w
      unfold errI
      rw [hnv]
      by_cases hv : valD 0 T.data.toList ≤ 9223372036854775807
      · rw [if_pos hv] at h ⊢
        exact h.mono fun e w2 ⟨h1, h2⟩ => ⟨⟨_, h1⟩, by rw [h2]; exact Below.refl _ _⟩
      · rw [if_neg hv] at h ⊢
        exact h.mono fun e w2 ⟨h1, h2⟩ => ⟨⟨_, h1⟩, by rw [h2]; exact Below.refl _ _⟩
    · have hnv : natV T.data.toList = false := by simpa using hnv
      unfold errI
      rw [hnv]
      exact (ref_int_not T (by omega) hnv w).mono fun e w2 ⟨h1, h2⟩ => ⟨⟨_, h1⟩, by rw [h2]; exact Below.refl _ _⟩
   clear her
   by_cases he0 : er = 0
   · subst he0
     have HI := Lib.hid hI
     clear hI hnum htk hkd hn hd0 hsp hlet hdig hTl hsz hz
     go_enter Tryz.func35, Tryz.ntmps35
     go_wp2_with fail
     refine (HL0.out _).mono ?_
     rintro e w9 ⟨rfl, rfl⟩
     go_wp2_with fail
     refine (HD0.out _).mono ?_
     rintro e w9 ⟨rfl, rfl⟩
     go_wp2_with fail
     refine (HNU.out _).mono ?_
     rintro e w9 ⟨rfl, rfl⟩
     go_wp2_with fail
     refine (HI.out _).mono ?_
     rintro e w3 ⟨⟨vv, rfl⟩, hb3⟩
     have HN2 := Lib.hid (HN1.out.later hb3)
     obtain ⟨d0, d1, d2, d3, dz, dl⟩ := tcells HN2.out.t
     obtain ⟨e0, e1, e2, e3, ez, el⟩ := tcells HN2.out.r
     clear hb3
     go_wp2_with fail
     exact next_end ((set_other (by omega)).trans HN2.out.r) (Nat.le_refl _) (HN2.out.b.setCell (p := ⟨w.heap.size + 1, 1, none⟩) (by show w.heap.size ≤ w.heap.size + 1; omega) _) (next_out (k := 3) (t := T) (a := i) (b := z) HV.out (fun _ => ⟨rfl, HTL.out, rfl, HZ.out.symm⟩)) rfl rfl
   · have hen : (er == 0) = false := beq_eq_false_iff_ne.2 he0
     have HI := Lib.hid hI
     clear hI hnum htk hkd hn hd0 hsp hlet hdig hTl hsz hz
     go_enter Tryz.func35, Tryz.ntmps35
     go_wp2_with fail
     refine (HL0.out _).mono ?_
     rintro e w9 ⟨rfl, rfl⟩
     go_wp2_with fail
     refine (HD0.out _).mono ?_
     rintro e w9 ⟨rfl, rfl⟩
     go_wp2_with fail
     refine (HNU.out _).mono ?_
     rintro e w9 ⟨rfl, rfl⟩
     go_wp2_with fail
     refine (HI.out _).mono ?_
     rintro e w3 ⟨⟨vv, rfl⟩, hb3⟩
     have HN2 := Lib.hid (HN1.out.later hb3)
     obtain ⟨d0, d1, d2, d3, dz, dl⟩ := tcells HN2.out.t
     obtain ⟨e0, e1, e2, e3, ez, el⟩ := tcells HN2.out.r
     clear hb3
     go_wp2_with fail
     exact next_end HN2.out.r (Nat.le_refl _) HN2.out.b (next_out (k := 0) (t := ⟨#[]⟩) (a := 0) (b := 0) HV.out (fun h => absurd h he0)) rfl rfl
 · rw [if_neg hk3] at her
   have hk3b : ((kd : Int) == 3) = false := beq_eq_false_iff_ne.2 (by omega)
   obtain ⟨f, _, hf⟩ := eFv_is T (by omega)
   rw [her] at hf
   have hI := hf
   clear her hf
   by_cases he0 : er = 0
   · subst he0
     have HI := Lib.hid hI
     clear hI hnum htk hkd hn hd0 hsp hlet hdig hTl hsz hz
     go_enter Tryz.func35, Tryz.ntmps35
     go_wp2_with fail
     refine (HL0.out _).mono ?_
     rintro e w9 ⟨rfl, rfl⟩
     go_wp2_with fail
     refine (HD0.out _).mono ?_
     rintro e w9 ⟨rfl, rfl⟩
     go_wp2_with fail
     refine (HNU.out _).mono ?_
     rintro e w9 ⟨rfl, rfl⟩
     go_wp2_with fail
     refine (HI.out _).mono ?_
     rintro e w3 ⟨rfl, hb3⟩
     have HN2 := Lib.hid (HN1.out.later hb3)
     obtain ⟨d0, d1, d2, d3, dz, dl⟩ := tcells HN2.out.t
     obtain ⟨e0, e1, e2, e3, ez, el⟩ := tcells HN2.out.r
     clear hb3
     go_wp2_with fail
     exact next_end ((set_other (by omega)).trans HN2.out.r) (Nat.le_refl _) (HN2.out.b.setCell (p := ⟨w.heap.size + 1, 1, none⟩) (by show w.heap.size ≤ w.heap.size + 1; omega) _) (next_out (k := kd) (t := T) (a := i) (b := z) HV.out (fun _ => ⟨rfl, HTL.out, rfl, HZ.out.symm⟩)) rfl rfl
   · have hen : (er == 0) = false := beq_eq_false_iff_ne.2 he0
     have HI := Lib.hid hI
     clear hI hnum htk hkd hn hd0 hsp hlet hdig hTl hsz hz
     go_enter Tryz.func35, Tryz.ntmps35
     go_wp2_with fail
     refine (HL0.out _).mono ?_
     rintro e w9 ⟨rfl, rfl⟩
     go_wp2_with fail
     refine (HD0.out _).mono ?_
     rintro e w9 ⟨rfl, rfl⟩
     go_wp2_with fail
     refine (HNU.out _).mono ?_
     rintro e w9 ⟨rfl, rfl⟩
     go_wp2_with fail
     refine (HI.out _).mono ?_
     rintro e w3 ⟨rfl, hb3⟩
     have HN2 := Lib.hid (HN1.out.later hb3)
     obtain ⟨d0, d1, d2, d3, dz, dl⟩ := tcells HN2.out.t
     obtain ⟨e0, e1, e2, e3, ez, el⟩ := tcells HN2.out.r
     clear hb3
     go_wp2_with fail
     exact next_end HN2.out.r (Nat.le_refl _) HN2.out.b (next_out (k := 0) (t := ⟨#[]⟩) (a := 0) (b := 0) HV.out (fun h => absurd h he0)) rfl rfl
/-- A string's literal within a text. -/
theorem escV_drop (L : BL) (i : Nat) : ∀ (f j : Nat) (b : BL), L.length - (i + j) ≤ f → quotAt (L.drop i) j b = (quotAt L (i + j) b).map (fun x => (x.1, x.2 - i)) := by
 intro f
 induction f with
 | zero =>
  intro j b h
  rw [quotAt_end (by rw [List.length_drop]; omega), quotAt_end (by omega)]; rfl
 | succ f ih =>
  intro j b h
  by_cases hlt : i + j < L.length
  · have hlt2 : j < (L.drop i).length := by rw [List.length_drop]; omega
    have hg : (L.drop i)[j] = L[i + j] := by rw [List.getElem_drop]
    rw [quotAt, dif_pos hlt2, hg]
    rw [quotAt.eq_1 L (i + j) b, dif_pos hlt]
    split
    · simp only [Option.map_some, Option.some.injEq, Prod.mk.injEq, true_and]; omega
    · split
      · rfl
      · split
        · rw [List.drop_drop, ← Nat.add_assoc]
          cases hes : escV (L.drop (i + j + 1)) with
          | none => rfl
          | some xm =>
           obtain ⟨x, m⟩ := xm
           have hm := escV_pos hes
           simp only
           have := ih (j + 1 + m) (b ++ [x]) (by omega)
           rw [this]
           rw [show i + (j + 1 + m) = i + j + 1 + m by omega]
        · have := ih (j + 1) (b ++ [L[i + j]]) (by omega)
          rw [this]
          rw [show i + (j + 1) = i + j + 1 by omega]
  · rw [quotAt_end (by rw [List.length_drop]; omega), quotAt_end (by omega)]; rfl
theorem quot_at (L : BL) (i : Nat) (h : atB (· == 34) L i = true) : quotV (L.drop i) = (quotAt L (i + 1) []).map (fun x => (x.1, x.2 - i)) := by
 have hd := is_head h
 have e : quotV (L.drop i) = quotAt (L.drop i) 1 [] := by
  rw [hd]; show (if (34 : UInt8).toNat = 34 then quotAt (34 :: L.drop (i + 1)) 1 [] else none) = _; rw [if_pos (by decide)]
 rw [e]
 exact escV_drop L i _ 1 [] (Nat.le_refl _)
theorem at_val {s : ByteArray} {i : Nat} (h : i < s.size) (x : UInt8) : atB (· == x) s.data.toList i = decide (s[i] = x) := by
 rw [atB_in h]
 exact Bool.eq_iff_iff.2 (by simp)
set_option maxRecDepth 100000 in
set_option maxHeartbeats 6400000 in
theorem rnext_str (s : ByteArray) (i : Nat) (w : World) (hs : s.size ≤ 999990) (hi : i < s.size) (hlet : atB isLet s.data.toList i = false) (hdig : atB isDig s.data.toList i = false) (h34 : atB (· == 34) s.data.toList i = true) :
  Calls Tryz.prog 35 #[.string s, .int .i64 (i : Int)] w fun e w' => NextOut s.data.toList i e ∧ Below w.heap.size w w' := by
 have hsz : s.data.toList.length = s.size := rfl
 have HL0 := Lib.hid (fun w => rletter s i w (by omega) (by omega))
 have HD0 := Lib.hid (fun w => rdigit s i w (by omega) (by omega))
 rw [hlet] at HL0
 rw [hdig] at HD0
 have HS0 := Lib.hid (NS.start w i)
 obtain ⟨a0, a1, a2, a3, az, al⟩ := tcells HS0.out.t
 obtain ⟨b0, b1, b2, b3, bz, bl⟩ := tcells HS0.out.r
 have hi2 : (i : Int) < (s.size : Int) := by omega
 obtain ⟨c, hc⟩ : ∃ c, s[i] = c := ⟨_, rfl⟩
 have htk := take_quote h34
 rw [quot_at _ _ h34] at htk
 have hc34 : c.toNat = 34 := by rw [at_val hi, hc] at h34; have : c = 34 := (by simpa using h34); rw [this]; rfl
 have b34 : ((c.toNat : Int) == 34) = true := beq_iff_eq.2 (by omega)
 have hqq := fun w => rquoted s i w hs hi
 cases hq : quotAt s.data.toList (i + 1) [] with
 | none =>
  rw [hq] at hqq htk
  have HQ := Lib.hid (show ∀ w, Calls Tryz.prog 41 #[.string s, .int .i64 (i : Int)] w fun e w' => e = .returned (.tuple #[.string ⟨#[]⟩, .int .i64 0]) ∧ Below w.heap.size w w' from hqq)
  have HV := Lib.hid (show takeV eFv (s.data.toList.drop i) = (4, 0, 0) from htk)
  have hmx : max (0 : Int) (i : Int) = (i : Int) := by omega
  clear hqq htk hq hlet hdig h34 hsz hc34
  go_enter Tryz.func35, Tryz.ntmps35
  go_wp2_with fail
  refine (HL0.out _).mono ?_
  rintro e w9 ⟨rfl, rfl⟩
  go_wp2_with fail
  refine (HD0.out _).mono ?_
  rintro e w9 ⟨rfl, rfl⟩
  go_wp2_with fail
  refine (HQ.out _).mono ?_
  rintro e w3 ⟨rfl, hb3⟩
  have HN2 := Lib.hid (HS0.out.later hb3)
  obtain ⟨d0, d1, d2, d3, dz, dl⟩ := tcells HN2.out.t
  obtain ⟨e0, e1, e2, e3, ez, el⟩ := tcells HN2.out.r
  clear hb3
  go_wp2_with fail
  have HN3 := Lib.hid ((HN2.out.kind 5).to i)
  exact next_end HN3.out.r (Nat.le_refl _) HN3.out.b (next_out (k := 0) (t := ⟨#[]⟩) (a := 0) (b := 0) HV.out (fun h => absurd h (by decide))) rfl rfl
 | some vn =>
  obtain ⟨v, z⟩ := vn
  rw [hq] at hqq htk
  obtain ⟨hq1, hq2⟩ := quotAt_le _ _ _ _ _ _ (Nat.le_refl _) hq
  rw [hsz] at hq2
  obtain ⟨n, hn⟩ : ∃ n, z - i = n := ⟨_, rfl⟩
  have hz : i + n = z := by omega
  have HQ := Lib.hid (show ∀ w, Calls Tryz.prog 41 #[.string s, .int .i64 (i : Int)] w fun e w' => e = .returned (.tuple #[.string (toBA v), .int .i64 (z : Nat)]) ∧ Below w.heap.size w w' from hqq)
  have hvs : (toBA v).size = v.length := by show (toBA v).data.toList.length = _; rw [toBA_list]
  generalize toBA v = V at HQ hvs
  have htk : takeV eFv (s.data.toList.drop i) = ((if 4096 < v.length then 3 else 0), 5, z - i) := htk
  rw [hn] at htk
  obtain ⟨T, hT⟩ : ∃ T, s.extract i z = T := ⟨_, rfl⟩
  have HTL := Lib.hid (show T.data.toList = (s.data.toList.drop i).take n by rw [← hT, ← hz]; exact exm_list s i n)
  have HZ := Lib.hid hz
  have hz0 : (0 : Int) < (z : Int) := by omega
  have hmx : max (z : Int) (i : Int) = (z : Int) := by omega
  have hiz : (i : Int) ≤ (z : Int) := by omega
  have hzl : (z : Int) ≤ (s.size : Int) := by omega
  by_cases h4 : 4096 < v.length
  · have h4i : (4096 : Int) < (V.size : Int) := by omega
    rw [if_pos h4] at htk
    have HV := Lib.hid htk
    clear hqq htk hq hlet hdig h34 hsz hc34 hn hz hvs h4
    go_enter Tryz.func35, Tryz.ntmps35
    go_wp2_with fail
    refine (HL0.out _).mono ?_
    rintro e w9 ⟨rfl, rfl⟩
    go_wp2_with fail
    refine (HD0.out _).mono ?_
    rintro e w9 ⟨rfl, rfl⟩
    go_wp2_with fail
    refine (HQ.out _).mono ?_
    rintro e w3 ⟨rfl, hb3⟩
    have HN2 := Lib.hid (HS0.out.later hb3)
    obtain ⟨d0, d1, d2, d3, dz, dl⟩ := tcells HN2.out.t
    obtain ⟨e0, e1, e2, e3, ez, el⟩ := tcells HN2.out.r
    clear hb3
    go_wp2_with fail
    have HN3 := Lib.hid ((HN2.out.kind 5).to z)
    exact next_end HN3.out.r (Nat.le_refl _) HN3.out.b (next_out (k := 0) (t := ⟨#[]⟩) (a := 0) (b := 0) HV.out (fun h => absurd h (by decide))) rfl rfl
  · have h4i : ¬ (4096 : Int) < (V.size : Int) := by omega
    rw [if_neg h4] at htk
    have HV := Lib.hid htk
    clear hqq htk hq hlet hdig h34 hsz hc34 hn hz hvs h4
    go_enter Tryz.func35, Tryz.ntmps35
    go_wp2_with fail
    refine (HL0.out _).mono ?_
    rintro e w9 ⟨rfl, rfl⟩
    go_wp2_with fail
    refine (HD0.out _).mono ?_
    rintro e w9 ⟨rfl, rfl⟩
    go_wp2_with fail
    refine (HQ.out _).mono ?_
    rintro e w3 ⟨rfl, hb3⟩
    have HN2 := Lib.hid (HS0.out.later hb3)
    obtain ⟨d0, d1, d2, d3, dz, dl⟩ := tcells HN2.out.t
    obtain ⟨e0, e1, e2, e3, ez, el⟩ := tcells HN2.out.r
    clear hb3
    go_wp2_with fail
    have HN3 := Lib.hid ((HN2.out.kind 5).to z)
    exact next_end ((set_other (by omega)).trans HN3.out.r) (Nat.le_refl _) (HN3.out.b.setCell (p := ⟨w.heap.size + 1, 1, none⟩) (by show w.heap.size ≤ w.heap.size + 1; omega) _) (next_out (k := 5) (t := T) (a := i) (b := z) HV.out (fun _ => ⟨rfl, HTL.out, rfl, HZ.out.symm⟩)) rfl rfl
set_option maxRecDepth 100000 in
set_option maxHeartbeats 6400000 in
theorem rnext_semi (s : ByteArray) (i : Nat) (w : World) (hs : s.size ≤ 999990) (hi : i < s.size) (hlet : atB isLet s.data.toList i = false) (hdig : atB isDig s.data.toList i = false) (h59 : atB (· == 59) s.data.toList i = true) :
  Calls Tryz.prog 35 #[.string s, .int .i64 (i : Int)] w fun e w' => NextOut s.data.toList i e ∧ Below w.heap.size w w' := by
 have hsz : s.data.toList.length = s.size := rfl
 have HL0 := Lib.hid (fun w => rletter s i w (by omega) (by omega))
 have HD0 := Lib.hid (fun w => rdigit s i w (by omega) (by omega))
 rw [hlet] at HL0
 rw [hdig] at HD0
 have HS0 := Lib.hid (NS.start w i)
 obtain ⟨a0, a1, a2, a3, az, al⟩ := tcells HS0.out.t
 obtain ⟨b0, b1, b2, b3, bz, bl⟩ := tcells HS0.out.r
 have hi2 : (i : Int) < (s.size : Int) := by omega
 obtain ⟨c, hc⟩ : ∃ c, s[i] = c := ⟨_, rfl⟩
 have hd := is_head h59
 have htk : takeV eFv (s.data.toList.drop i) = (0, 7, 1) := by
  rw [takeV_rest (by rw [hd]; exact speltZ.2 (by decide)), hd, num_zero.2 (digN_zero.2 (by decide)), if_neg (by omega), quotV_head (by decide)]
  rfl
 have hc59 : c.toNat = 59 := by rw [at_val hi, hc] at h59; have : c = 59 := (by simpa using h59); rw [this]; rfl
 have b34 : ((c.toNat : Int) == 34) = false := beq_eq_false_iff_ne.2 (by omega)
 have b59 : ((c.toNat : Int) == 59) = true := beq_iff_eq.2 (by omega)
 obtain ⟨z, hz⟩ : ∃ z, i + 1 = z := ⟨_, rfl⟩
 have hzi : (i : Int) + 1 = (z : Int) := by omega
 have hiz : (i : Int) ≤ (z : Int) := by omega
 have hzl : (z : Int) ≤ (s.size : Int) := by omega
 obtain ⟨T, hT⟩ : ∃ T, s.extract i z = T := ⟨_, rfl⟩
 have HTL := Lib.hid (show T.data.toList = (s.data.toList.drop i).take 1 by rw [← hT, ← hz]; exact exm_list s i 1)
 have HZ := Lib.hid hz
 have HV := Lib.hid htk
 clear htk hd hlet hdig h59 hsz hc59 hz
 clear a0 a1 a2 a3 az al b0 b1 b2 b3 bz bl
 go_enter Tryz.func35, Tryz.ntmps35
 go_wp2_with fail
 refine (HL0.out _).mono ?_
 rintro e w9 ⟨rfl, rfl⟩
 go_wp2_with fail
 obtain ⟨W0, hW0⟩ : ∃ W0, (w.alloc (.cells #[.int .i64 0, .string ⟨#[]⟩, .int .i64 0, .int .i64 0] 31)).alloc (.cells #[.int .i64 0, .string ⟨#[]⟩, .int .i64 (i : Int), .int .i64 0] 31) = W0 := ⟨_, rfl⟩
 rw [hW0] at HS0
 simp only [hW0]
 clear hW0
 obtain ⟨a0, a1, a2, a3, az, al⟩ := tcells HS0.out.t
 obtain ⟨b0, b1, b2, b3, bz, bl⟩ := tcells HS0.out.r
 refine (HD0.out _).mono ?_
 rintro e w9 ⟨rfl, rfl⟩
 go_wp2_with fail
 have HN3 := Lib.hid ((HS0.out.kind 7).to z)
 exact next_end ((set_other (by omega)).trans HN3.out.r) (Nat.le_refl _) (HN3.out.b.setCell (p := ⟨w.heap.size + 1, 1, none⟩) (by show w.heap.size ≤ w.heap.size + 1; omega) _) (next_out (k := 7) (t := T) (a := i) (b := z) HV.out (fun _ => ⟨rfl, HTL.out, rfl, HZ.out.symm⟩)) rfl rfl
/-- The first mark that a text begins with, of those from a place on. -/
def bestM (L : BL) (k : Nat) : Option BL := (marksL.drop k).find? (fun m => m.isPrefixOf L)
theorem best_yes {L m : BL} {k : Nat} (hm : marksL[k]? = some m) (h : m.isPrefixOf L = true) : bestM L k = some m := by
 have hlt := (List.getElem?_eq_some_iff.1 hm).1
 unfold bestM
 rw [List.drop_eq_getElem_cons hlt, (List.getElem?_eq_some_iff.1 hm).2, List.find?_cons, h]
theorem best_no {L m : BL} {k : Nat} (hm : marksL[k]? = some m) (h : m.isPrefixOf L = false) : bestM L k = bestM L (k + 1) := by
 have hlt := (List.getElem?_eq_some_iff.1 hm).1
 unfold bestM
 rw [List.drop_eq_getElem_cons hlt, (List.getElem?_eq_some_iff.1 hm).2, List.find?_cons, h]
theorem best_mark (L : BL) : markN L = match bestM L 0 with | some m => m.length | none => 0 := by
 have e : bestM L 0 = (marks2 ++ marks1).find? (fun m => m.isPrefixOf L) := rfl
 rw [e, List.find?_append]
 unfold markN
 cases h2 : marks2.find? (fun m => m.isPrefixOf L) with
 | some m =>
  have hm := List.mem_of_find?_eq_some h2
  obtain ⟨a, b, rfl, _⟩ := marks_no32 m hm
  rw [if_pos (List.any_eq_true.2 ⟨_, hm, List.find?_some h2⟩)]; rfl
 | none =>
  rw [if_neg (by rw [List.any_eq_true]; rintro ⟨m, hm, hp⟩; exact List.find?_eq_none.1 h2 m hm hp)]
  cases h1 : marks1.find? (fun m => m.isPrefixOf L) with
  | some m =>
   have hm := List.mem_of_find?_eq_some h1
   obtain ⟨a, rfl, _⟩ := marks1_one m hm
   rw [if_pos (List.any_eq_true.2 ⟨_, hm, List.find?_some h1⟩)]; rfl
  | none =>
   rw [if_neg (by rw [List.any_eq_true]; rintro ⟨m, hm, hp⟩; exact List.find?_eq_none.1 h1 m hm hp)]; rfl
theorem pre_tk2 {m L : BL} : m.isPrefixOf L = decide (m.length ≤ L.length ∧ L.take m.length = m) := by
 rw [Bool.eq_iff_iff, decide_eq_true_eq, List.isPrefixOf_iff_prefix]
 constructor
 · rintro ⟨r, rfl⟩; simp
 · rintro ⟨_, h⟩; exact ⟨L.drop m.length, by conv => lhs; lhs; rw [← h]
                                             exact List.take_append_drop _ _⟩
/-- What the loop over the marks has found. -/
def BestIs (i : Nat) (o : Option BL) (e : Int) (k b : Nat) : Prop := match o with
 | some m => e = 0 ∧ k = 6 ∧ b = i + m.length
 | none => e = 4 ∧ k = 0 ∧ b = 0
theorem marks_cells {w : World} {M : Nat} (h : w.heap[M]? = some (.cells (marksL.map fun l => Value.string ⟨l.toArray⟩).toArray 9 (0, 0))) (k : Nat) (m : BL) (hm : marksL[k]? = some m) : w.cell? ⟨M, 0 + k, none⟩ = some (.string (toBA m)) := by
 rw [cell_of_row _ _ _ _ _ _ h, Nat.zero_add, List.getElem?_toArray, List.getElem?_map, hm]; rfl
theorem take_mark {L : BL} (h1 : speltN L = 0) (h2 : digN L = 0) (h3 : quotV L = none) (h4 : L.head? ≠ some 59) : takeV eFv L = (match bestM L 0 with | some m => (0, 6, m.length) | none => (4, 0, 0)) := by
 rw [takeV_rest h1, num_zero.2 h2, if_neg (by omega), h3]
 simp only
 rw [if_neg h4, best_mark]
 cases hb : bestM L 0 with
 | none => rfl
 | some m =>
  have hm : m ∈ marksL := by
   unfold bestM at hb; exact List.mem_of_mem_drop (List.mem_of_find?_eq_some hb)
  have hl : 0 < m.length := by
   rcases marks_len m hm with h | h <;> omega
  simp only
  rw [if_pos hl]
set_option maxRecDepth 100000 in
set_option maxHeartbeats 12800000 in
theorem rnext_mark (s : ByteArray) (i : Nat) (w : World) (hs : s.size ≤ 999990) (hi : i < s.size) (hlet : atB isLet s.data.toList i = false) (hdig : atB isDig s.data.toList i = false) (h34 : atB (· == 34) s.data.toList i = false) (h59 : atB (· == 59) s.data.toList i = false) :
  Calls Tryz.prog 35 #[.string s, .int .i64 (i : Int)] w fun e w' => NextOut s.data.toList i e ∧ Below w.heap.size w w' := by
 have hsz : s.data.toList.length = s.size := rfl
 have HL0 := Lib.hid (fun w => rletter s i w (by omega) (by omega))
 have HD0 := Lib.hid (fun w => rdigit s i w (by omega) (by omega))
 rw [hlet] at HL0
 rw [hdig] at HD0
 have HS0 := Lib.hid (NS.start w i)
 obtain ⟨a0, a1, a2, a3, az, al⟩ := tcells HS0.out.t
 obtain ⟨b0, b1, b2, b3, bz, bl⟩ := tcells HS0.out.r
 have hi2 : (i : Int) < (s.size : Int) := by omega
 obtain ⟨c, hc⟩ : ∃ c, s[i] = c := ⟨_, rfl⟩
 have hd : s.data.toList.drop i = c :: s.data.toList.drop (i + 1) := by rw [← hc]; exact drop_at (at_get hi)
 have htk : takeV eFv (s.data.toList.drop i) = (match bestM (s.data.toList.drop i) 0 with | some m => (0, 6, m.length) | none => (4, 0, 0)) := by
  refine take_mark ?_ (dig_out hdig) ?_ ?_
  · rw [spelt_at, hlet]; rfl
  · rw [hd]; refine quotV_head (fun e => ?_)
    have : c = 34 := UInt8.toNat_inj.1 e
    rw [at_val hi, hc, this] at h34; simp at h34
  · rw [hd]; intro e
    have : c = 59 := by simpa using e
    rw [at_val hi, hc, this] at h59; simp at h59
 have c34 : c.toNat ≠ 34 := fun e => by
  have : c = 34 := UInt8.toNat_inj.1 e
  rw [at_val hi, hc, this] at h34; simp at h34
 have c59 : c.toNat ≠ 59 := fun e => by
  have : c = 59 := UInt8.toNat_inj.1 e
  rw [at_val hi, hc, this] at h59; simp at h59
 have b34 : ((c.toNat : Int) == 34) = false := beq_eq_false_iff_ne.2 (by omega)
 have b59 : ((c.toNat : Int) == 59) = false := beq_eq_false_iff_ne.2 (by omega)
 obtain ⟨L', hL'⟩ : ∃ L', s.data.toList.drop i = L' := ⟨_, rfl⟩
 rw [hL'] at htk
 have hLl : L'.length = s.size - i := by rw [← hL', List.length_drop]; rfl
 have HTK := Lib.hid htk
 have HLL := Lib.hid hL'
 have HM := Lib.hid (fun w => rmarks w)
 have HSZ := Lib.hid hsz
 clear htk hd hL' hlet hdig h34 h59 hsz c34 c59
 go_enter Tryz.func35, Tryz.ntmps35
 go_wp2_with fail
 refine (HL0.out _).mono ?_
 rintro e w9 ⟨rfl, rfl⟩
 go_wp2_with fail
 refine (HD0.out _).mono ?_
 rintro e w9 ⟨rfl, rfl⟩
 go_wp2_with fail
 refine (HM.out _).mono ?_
 rintro e w3 ⟨rfl, rfl⟩
 obtain ⟨W1, hW1⟩ : ∃ W1, ((w.alloc (.cells #[.int .i64 0, .string ⟨#[]⟩, .int .i64 0, .int .i64 0] 31)).alloc (.cells #[.int .i64 0, .string ⟨#[]⟩, .int .i64 (i : Int), .int .i64 0] 31)) = W1 := ⟨_, rfl⟩
 rw [hW1] at HS0
 simp only [hW1]
 obtain ⟨M, hM⟩ : ∃ M, W1.heap.size = M := ⟨_, rfl⟩
 have hMs : w.heap.size + 2 ≤ M := by rw [← hM, ← hW1, World.size_alloc, World.size_alloc]; omega
 have HMC := Lib.hid (show (W1.alloc (.cells (marksL.map fun l => Value.string ⟨l.toArray⟩).toArray 9)).heap[M]? = some (.cells (marksL.map fun l => Value.string ⟨l.toArray⟩).toArray 9 (0, 0)) by rw [← hM]; exact heap_alloc_new W1 _)
 have HS1 := Lib.hid (HS0.out.later ((Below.refl _ _).alloc (Nat.le_refl _) (.cells (marksL.map fun l => Value.string ⟨l.toArray⟩).toArray 9)))
 rw [show (marks2 ++ marks1) = marksL from rfl]
 generalize W1.alloc (.cells (marksL.map fun l => Value.string ⟨l.toArray⟩).toArray 9) = W2 at *
 simp only [hM]
 clear hW1 HS0 a0 a1 a2 a3 az al b0 b1 b2 b3 bz bl
 go_wp2_with fail
 go_loopw [13, 7] (fun iv ev wr => ∃ (k : Nat) (e : Int) (kd b : Nat), k ≤ 23 ∧ iv = .int .i64 ((k : Int) - 1) ∧ ev = .int .i64 e ∧ BestIs i (bestM L' k) e kd b ∧ NS w wr kd i b ∧ wr.heap[M]? = some (.cells (marksL.map fun l => Value.string ⟨l.toArray⟩).toArray 9 (0, 0)) ∧ b ≤ s.size) (fun iv _ _ => (intOf iv + 1).toNat)
 case atStart => exact ⟨23, 4, 0, 0, Nat.le_refl _, by go_num, rfl, ⟨rfl, rfl, rfl⟩, HS1.out, HMC.out, Nat.zero_le _⟩
 case round =>
  obtain ⟨k, er, kd, b, hk, rfl, rfl, hbest, hns, hmc, hbl⟩ := hrel
  have HNS := Lib.hid hns
  have HMC2 := Lib.hid hmc
  obtain ⟨a0, a1, a2, a3, az, al⟩ := tcells hns.t
  obtain ⟨b0, b1, b2, b3, bz, bl⟩ := tcells hns.r
  clear hns hmc HS1 HMC
  by_cases hk0 : k = 0
  · subst hk0
    have HB := Lib.hid hbest
    have hge : ¬ (0 : Int) ≤ -1 := by omega
    cases hb0 : bestM L' 0 with
    | none =>
     rw [hb0] at hbest
     obtain ⟨rfl, rfl, rfl⟩ := hbest
     have HV := Lib.hid (show takeV eFv (s.data.toList.drop i) = (4, 0, 0) by rw [HLL.out, HTK.out, hb0])
     clear HB hb0
     go_wp2_with fail
     exact next_end HNS.out.r (Nat.le_refl _) HNS.out.b (next_out (k := 0) (t := ⟨#[]⟩) (a := 0) (b := 0) HV.out (fun h => absurd h (by decide))) rfl rfl
    | some m =>
     rw [hb0] at hbest
     obtain ⟨rfl, rfl, rfl⟩ := hbest
     obtain ⟨z, hz⟩ : ∃ z, i + m.length = z := ⟨_, rfl⟩
     rw [hz] at a3 hbl
     have HNS2 := Lib.hid HNS.out
     rw [hz] at HNS2
     have HV := Lib.hid (show takeV eFv (s.data.toList.drop i) = (0, 6, m.length) by rw [HLL.out, HTK.out, hb0])
     have hiz : (i : Int) ≤ (z : Int) := by omega
     have hzl : (z : Int) ≤ (s.size : Int) := by omega
     obtain ⟨T, hT⟩ : ∃ T, s.extract i z = T := ⟨_, rfl⟩
     have HTL := Lib.hid (show T.data.toList = (s.data.toList.drop i).take m.length by rw [← hT, ← hz]; exact exm_list s i m.length)
     have HZ := Lib.hid hz
     clear HB hb0 hz HNS
     go_wp2_with fail
     exact next_end ((set_other (by omega)).trans HNS2.out.r) (Nat.le_refl _) (HNS2.out.b.setCell (p := ⟨w.heap.size + 1, 1, none⟩) (by show w.heap.size ≤ w.heap.size + 1; omega) _) (next_out (k := 6) (t := T) (a := i) (b := z) HV.out (fun _ => ⟨rfl, HTL.out, rfl, HZ.out.symm⟩)) rfl rfl
  · obtain ⟨j, rfl⟩ : ∃ j, k = j + 1 := ⟨k - 1, by omega⟩
    have hj : ((j + 1 : Nat) : Int) - 1 = (j : Int) := by omega
    simp only [hj]
    obtain ⟨m, hm⟩ : ∃ m, marksL[j]? = some m := ⟨_, List.getElem?_eq_getElem (show j < marksL.length from by rw [show marksL.length = 23 from by decide]; omega)⟩
    have hml := marks_len m (List.mem_of_getElem? hm)
    have hcell := marks_cells HMC2.out j m hm
    rw [Nat.zero_add] at hcell
    have HBY := Lib.hid (fun h => best_yes (L := L') hm h)
    have HBN := Lib.hid (fun h => best_no (L := L') hm h)
    have hpre := pre_tk2 (m := m) (L := L')
    obtain ⟨X, hX⟩ : ∃ X, toBA m = X := ⟨_, rfl⟩
    have HM1 := Lib.hid hm
    have HXE := Lib.hid hX
    have hMT : M ≠ w.heap.size + 1 := by omega
    have hXs : X.size = m.length := by rw [← hX]; rfl
    have hXl : X.data.toList = m := by rw [← hX, toBA_list]
    rw [hX] at hcell
    have hj0 : (0 : Int) ≤ (j : Int) := by omega
    have hj23 : (j : Int) < 23 := by omega
    have HBE := Lib.hid hbest
    obtain ⟨z, hz⟩ : ∃ z, i + X.size = z := ⟨_, rfl⟩
    have hzi : (i : Int) + (X.size : Int) = (z : Int) := by omega
    have hiz : (i : Int) ≤ (z : Int) := by omega
    clear hm hX hbest hk0
    by_cases hle : z ≤ s.size
    · have hle2 : (z : Int) ≤ (s.size : Int) := by omega
      have hled : decide ((z : Int) ≤ (s.size : Int)) = true := decide_eq_true hle2
      obtain ⟨Y, hY⟩ : ∃ Y, s.extract i z = Y := ⟨_, rfl⟩
      have hYl : Y.data.toList = L'.take m.length := by rw [← hY, ← hz, ← HLL.out, hXs]; exact exm_list s i m.length
      by_cases he : L'.take m.length = m
      · have HP := Lib.hid (HBY.out (by rw [hpre, decide_eq_true ⟨by omega, he⟩]))
        have hq1 : Y.toList = X.toList := by rw [ByteArray.toList_eq, ByteArray.toList_eq, hYl, hXl, he]
        have hq2 : (Y.toList == X.toList) = true := by rw [hq1]; simp
        have HXS := Lib.hid hXs
        have HZ := Lib.hid hz
        clear hpre hYl hXl he hXs hz
        go_wp2_with fail
        go_quiet (fail)
        generalize hWq : World.drewN _ _ = wq
        have hbq : Below wr.heap.size wr wq := by rw [← hWq]; exact below_draws (Below.refl _ _) _
        have HNQ := Lib.hid (HNS.out.later hbq)
        have HMQ := Lib.hid (blk_below HMC2.out hbq)
        obtain ⟨q0, q1, q2, q3, qz, ql⟩ := tcells HNQ.out.t
        have hcq := marks_cells HMQ.out j m HM1.out
        rw [Nat.zero_add, HXE.out] at hcq
        have hcq2 : (wq.setCell ⟨w.heap.size + 1, 0, none⟩ (.int .i64 6)).cell? ⟨M, j, none⟩ = some (.string X) := by
         rw [← hcq]; unfold World.cell?; rw [set_other hMT]
        clear hWq
        go_wp2_with fail
        go_roundw
        case rel => exact ⟨j, 0, 6, z, by omega, by go_num, rfl, by rw [HP.out]; exact ⟨rfl, rfl, by rw [← HXS.out]; exact HZ.out.symm⟩, (HNQ.out.kind 6).to z, (set_other (by omega)).trans ((set_other (by omega)).trans HMQ.out), hle⟩
        case measure => simp only [intOf]; omega
      · have HP := Lib.hid (HBN.out (by rw [hpre]; exact decide_eq_false (fun h => he h.2)))
        have hq1 : ¬ Y.toList = X.toList := by rw [ByteArray.toList_eq, ByteArray.toList_eq, hYl, hXl]; exact he
        have hq2 : (Y.toList == X.toList) = false := by simpa using hq1
        have HE := Lib.hid he
        clear hpre hYl hXl he hXs hz
        go_wp2_with fail
        go_quiet (fail)
        generalize hWq : World.drewN _ _ = wq
        have hbq : Below wr.heap.size wr wq := by rw [← hWq]; exact below_draws (Below.refl _ _) _
        have HNQ := Lib.hid (HNS.out.later hbq)
        have HMQ := Lib.hid (blk_below HMC2.out hbq)
        obtain ⟨q0, q1, q2, q3, qz, ql⟩ := tcells HNQ.out.t
        have hcq := marks_cells HMQ.out j m HM1.out
        rw [Nat.zero_add, HXE.out] at hcq
        have hcq2 : (wq.setCell ⟨w.heap.size + 1, 0, none⟩ (.int .i64 6)).cell? ⟨M, j, none⟩ = some (.string X) := by
         rw [← hcq]; unfold World.cell?; rw [set_other hMT]
        clear hWq
        go_wp2_with fail
        go_roundw
        case rel => exact ⟨j, er, kd, b, by omega, by go_num, rfl, by rw [HP.out]; exact HBE.out, HNQ.out, HMQ.out, hbl⟩
        case measure => simp only [intOf]; omega
    · have hzb : (z : Int) ≤ 9223372036854775807 := by rcases hml with h | h <;> omega
      have hle2 : ¬ (z : Int) ≤ (s.size : Int) := by omega
      have hled : decide ((z : Int) ≤ (s.size : Int)) = false := decide_eq_false hle2
      have hled2 : decide (z ≤ s.size) = false := decide_eq_false hle
      have HP := Lib.hid (HBN.out (by rw [hpre]; exact decide_eq_false (fun h => by have := h.1; omega)))
      clear hpre hXl hXs hz
      go_wp2_with fail
      go_quiet (fail)
      generalize hWq : World.drewN _ _ = wq
      have hbq : Below wr.heap.size wr wq := by rw [← hWq]; exact below_draws (Below.refl _ _) _
      have HNQ := Lib.hid (HNS.out.later hbq)
      have HMQ := Lib.hid (blk_below HMC2.out hbq)
      clear hWq
      go_wp2_with fail
      go_roundw
      case rel => exact ⟨j, er, kd, b, by omega, by go_num, rfl, by rw [HP.out]; exact HBE.out, HNQ.out, HMQ.out, hbl⟩
      case measure => simp only [intOf]; omega
theorem com_yes {s : ByteArray} {m : Nat} {c : UInt8} (h : m < s.size) (hc : s[m] = c) (h10 : c.toNat ≠ 10) : comN (s.data.toList.drop m) = comN (s.data.toList.drop (m + 1)) + 1 := by
 have hd := drop_at (at_get h)
 rw [hd, hc]
 unfold comN
 rw [List.takeWhile_cons, if_pos (decide_eq_true h10), List.length_cons]
theorem com_no {s : ByteArray} {m : Nat} {c : UInt8} (h : m < s.size) (hc : s[m] = c) (h10 : c.toNat = 10) : comN (s.data.toList.drop m) = 0 := by
 have hd := drop_at (at_get h)
 rw [hd, hc]
 unfold comN
 rw [List.takeWhile_cons, if_neg (by simp [h10])]; rfl
theorem com_end {s : ByteArray} {m : Nat} (h : s.size ≤ m) : comN (s.data.toList.drop m) = 0 := by
 rw [List.drop_of_length_le (show s.data.toList.length ≤ m from h)]; rfl
theorem idle_end {s : ByteArray} {m : Nat} (h : s.size ≤ m) : idleV (s.data.toList.drop m) = true := by
 rw [List.drop_of_length_le (show s.data.toList.length ≤ m from h)]; exact idle_nil
theorem idle_bad {c : UInt8} {r : BL} (h : ¬ (c.toNat = 47 ∧ r.head? = some 47)) (h1 : c.toNat ≠ 32) (h2 : c.toNat ≠ 9) (h3 : c.toNat ≠ 10) (h4 : c.toNat ≠ 13) : idleV (c :: r) = false := by
 rw [idleV, if_neg h]; simp [isBl, h1, h2, h3, h4]
theorem idle_one {c : UInt8} {r : BL} (h : c.toNat = 32 ∨ c.toNat = 9 ∨ c.toNat = 10 ∨ c.toNat = 13) : idleV (c :: r) = idleV r := by
 rcases h with h | h | h | h
 · exact idle_bl (by simp [isBl, h])
 · exact idle_bl (by simp [isBl, h])
 · exact idle_nl h
 · exact idle_bl (by simp [isBl, h])
set_option maxRecDepth 100000 in
set_option maxHeartbeats 6400000 in
theorem lidle (s : ByteArray) (w : World) (hs : s.size ≤ 1000000) :
  Calls Tryz.prog 13 #[.string s] w fun e w' => e = .returned (.bool (idleV s.data.toList)) ∧ w' = w := by
 have hsz : s.data.toList.length = s.size := rfl
 have HSZ := Lib.hid hsz
 clear hsz
 go_enter Tryz.func13, Tryz.ntmps13
 go_wp2_with fail
 go_loopw [3] (fun iv wx => ∃ k : Nat, k ≤ s.size + 1 ∧ iv = .int .i64 k ∧ idleV s.data.toList = idleV (s.data.toList.drop k) ∧ wx = w) (fun iv _ => s.size + 1 - (intOf iv).toNat)
 case atStart => exact ⟨0, Nat.zero_le _, rfl, rfl, rfl⟩
 case round =>
  obtain ⟨k, hk, rfl, hv, rfl⟩ := hrel
  by_cases hlt : k < s.size
  case neg =>
   have hlt2 : ¬ (k : Int) < (s.size : Int) := by omega
   have HV := Lib.hid (hv.trans (idle_end (by omega)))
   clear hv
   go_wp2_with fail
   go_ret
   exact ⟨ret_bool HV.out.symm, rfl⟩
  have hlt2 : (k : Int) < (s.size : Int) := by omega
  obtain ⟨c, hc⟩ : ∃ c, s[k] = c := ⟨_, rfl⟩
  have hd := drop_at (at_get hlt)
  rw [hc] at hd
  by_cases c47 : c.toNat = 47
  · have b47 : ((c.toNat : Int) == 47) = true := beq_iff_eq.2 (by omega)
    by_cases hlt3 : k + 1 < s.size
    · have hlt4 : (k : Int) + 1 < (s.size : Int) := by omega
      obtain ⟨d, hdd⟩ : ∃ d, s[k + 1] = d := ⟨_, rfl⟩
      have hd2 := drop_at (at_get hlt3)
      rw [hdd] at hd2
      by_cases d47 : d.toNat = 47
      · have f47 : ((d.toNat : Int) == 47) = true := beq_iff_eq.2 (by omega)
        obtain ⟨z, hz⟩ : ∃ z, k + comN (s.data.toList.drop k) = z := ⟨_, rfl⟩
        have hcm := com_yes hlt hc (by omega)
        have hle := com_le (s.data.toList.drop k)
        rw [List.length_drop, HSZ.out] at hle
        have hnx : idleV (s.data.toList.drop k) = idleV (s.data.toList.drop (z + 1)) := by
         rw [hd, idle_com ⟨c47, by rw [hd2]; have : d = 47 := UInt8.toNat_inj.1 d47
                                   rw [this]; rfl⟩, List.drop_drop]
         congr 2; omega
        have HV := Lib.hid (hv.trans hnx)
        have HZ := Lib.hid hz
        have hzl : z ≤ s.size := by omega
        clear hv hd hd2 hcm hnx hz hle
        go_wp2_with fail
        go_loopw [3] (fun iv wx => ∃ m : Nat, m ≤ z ∧ iv = .int .i64 m ∧ m + comN (s.data.toList.drop m) = z ∧ k ≤ m ∧ wx = wr) (fun iv _ => z - (intOf iv).toNat)
        case atStart => exact ⟨k, by have := HZ.out; omega, rfl, HZ.out, Nat.le_refl _, rfl⟩
        case round =>
         obtain ⟨m, hm, rfl, hmz, hkm, rfl⟩ := hrel
         by_cases hml : m < s.size
         · have hml2 : (m : Int) < (s.size : Int) := by omega
           obtain ⟨x, hx⟩ : ∃ x, s[m] = x := ⟨_, rfl⟩
           by_cases x10 : x.toNat = 10
           · have g10 : ((x.toNat : Int) == 10) = true := beq_iff_eq.2 (by omega)
             have g10' : ((x.toNat : Int) != 10) = false := by simp [x10]
             have hmm := com_no hml hx x10
             obtain rfl : m = z := by omega
             clear hmz hmm hm
             go_wp2_with fail
             go_roundw
             case rel => exact ⟨m + 1, by omega, by go_num, HV.out, trivial⟩
             case measure => simp only [intOf]; omega
           · have g10 : ((x.toNat : Int) == 10) = false := beq_eq_false_iff_ne.2 (by omega)
             have g10' : ((x.toNat : Int) != 10) = true := by simp; omega
             have hmm := com_yes hml hx x10
             have HM := Lib.hid (show m + 1 + comN (s.data.toList.drop (m + 1)) = z by omega)
             have hm1 : m + 1 ≤ z := by omega
             clear hmz hmm hm
             go_wp2_with fail
             go_roundw
             case rel => exact ⟨m + 1, hm1, by go_num, HM.out, by omega, trivial⟩
             case measure => simp only [intOf]; omega
         · have hml2 : ¬ (m : Int) < (s.size : Int) := by omega
           have hmm := com_end (s := s) (m := m) (by omega)
           obtain rfl : m = z := by omega
           clear hmz hmm hm
           go_wp2_with fail
           go_roundw
           case rel => exact ⟨m + 1, by omega, by go_num, HV.out, trivial⟩
           case measure => simp only [intOf]; omega
      · have f47 : ((d.toNat : Int) == 47) = false := beq_eq_false_iff_ne.2 (by omega)
        have f32 : ((c.toNat : Int) == 32) = false := beq_eq_false_iff_ne.2 (by omega)
        have g32 : ((c.toNat : Int) != 32) = true := by simp only [bne, f32]; rfl
        have f9 : ((c.toNat : Int) == 9) = false := beq_eq_false_iff_ne.2 (by omega)
        have g9 : ((c.toNat : Int) != 9) = true := by simp only [bne, f9]; rfl
        have f10 : ((c.toNat : Int) == 10) = false := beq_eq_false_iff_ne.2 (by omega)
        have g10 : ((c.toNat : Int) != 10) = true := by simp only [bne, f10]; rfl
        have f13 : ((c.toNat : Int) == 13) = false := beq_eq_false_iff_ne.2 (by omega)
        have g13 : ((c.toNat : Int) != 13) = true := by simp only [bne, f13]; rfl
        have HV := Lib.hid (show idleV s.data.toList = false by
         rw [hv, hd, idle_bad (by rw [hd2]; intro h; have : d = 47 := by simpa using h.2
                                  rw [this] at d47; exact d47 rfl) (by omega) (by omega) (by omega) (by omega)])
        clear hv hd hd2
        go_wp2_with fail
        go_ret
        exact ⟨ret_bool HV.out.symm, rfl⟩
    · have hlt4 : ¬ (k : Int) + 1 < (s.size : Int) := by omega
      have f32 : ((c.toNat : Int) == 32) = false := beq_eq_false_iff_ne.2 (by omega)
      have g32 : ((c.toNat : Int) != 32) = true := by simp only [bne, f32]; rfl
      have f9 : ((c.toNat : Int) == 9) = false := beq_eq_false_iff_ne.2 (by omega)
      have g9 : ((c.toNat : Int) != 9) = true := by simp only [bne, f9]; rfl
      have f10 : ((c.toNat : Int) == 10) = false := beq_eq_false_iff_ne.2 (by omega)
      have g10 : ((c.toNat : Int) != 10) = true := by simp only [bne, f10]; rfl
      have f13 : ((c.toNat : Int) == 13) = false := beq_eq_false_iff_ne.2 (by omega)
      have g13 : ((c.toNat : Int) != 13) = true := by simp only [bne, f13]; rfl
      have HV := Lib.hid (show idleV s.data.toList = false by
       rw [hv, hd, idle_bad (by rw [List.drop_of_length_le (show s.data.toList.length ≤ k + 1 by rw [HSZ.out]; omega)]; intro h; simp at h) (by omega) (by omega) (by omega) (by omega)])
      clear hv hd
      go_wp2_with fail
      go_ret
      exact ⟨ret_bool HV.out.symm, rfl⟩
  · have b47 : ((c.toNat : Int) == 47) = false := beq_eq_false_iff_ne.2 (by omega)
    by_cases hone : c.toNat = 32 ∨ c.toNat = 9 ∨ c.toNat = 10 ∨ c.toNat = 13
    · have HV := Lib.hid (show idleV s.data.toList = idleV (s.data.toList.drop (k + 1)) by rw [hv, hd, idle_one hone])
      clear hv hd
      rcases hone with h | h | h | h
      · have f32 : ((c.toNat : Int) == 32) = true := beq_iff_eq.2 (by omega)
        have g32 : ((c.toNat : Int) != 32) = false := by simp only [bne, f32]; rfl
        clear h c47
        go_wp2_with fail
        go_roundw
        case rel => exact ⟨k + 1, by omega, by go_num, HV.out, trivial⟩
        case measure => simp only [intOf]; omega
      · have f32 : ((c.toNat : Int) == 32) = false := beq_eq_false_iff_ne.2 (by omega)
        have g32 : ((c.toNat : Int) != 32) = true := by simp only [bne, f32]; rfl
        have f9 : ((c.toNat : Int) == 9) = true := beq_iff_eq.2 (by omega)
        have g9 : ((c.toNat : Int) != 9) = false := by simp only [bne, f9]; rfl
        clear h c47
        go_wp2_with fail
        go_roundw
        case rel => exact ⟨k + 1, by omega, by go_num, HV.out, trivial⟩
        case measure => simp only [intOf]; omega
      · have f32 : ((c.toNat : Int) == 32) = false := beq_eq_false_iff_ne.2 (by omega)
        have g32 : ((c.toNat : Int) != 32) = true := by simp only [bne, f32]; rfl
        have f9 : ((c.toNat : Int) == 9) = false := beq_eq_false_iff_ne.2 (by omega)
        have g9 : ((c.toNat : Int) != 9) = true := by simp only [bne, f9]; rfl
        have f10 : ((c.toNat : Int) == 10) = true := beq_iff_eq.2 (by omega)
        have g10 : ((c.toNat : Int) != 10) = false := by simp only [bne, f10]; rfl
        clear h c47
        go_wp2_with fail
        go_roundw
        case rel => exact ⟨k + 1, by omega, by go_num, HV.out, trivial⟩
        case measure => simp only [intOf]; omega
      · have f32 : ((c.toNat : Int) == 32) = false := beq_eq_false_iff_ne.2 (by omega)
        have g32 : ((c.toNat : Int) != 32) = true := by simp only [bne, f32]; rfl
        have f9 : ((c.toNat : Int) == 9) = false := beq_eq_false_iff_ne.2 (by omega)
        have g9 : ((c.toNat : Int) != 9) = true := by simp only [bne, f9]; rfl
        have f10 : ((c.toNat : Int) == 10) = false := beq_eq_false_iff_ne.2 (by omega)
        have g10 : ((c.toNat : Int) != 10) = true := by simp only [bne, f10]; rfl
        have f13 : ((c.toNat : Int) == 13) = true := beq_iff_eq.2 (by omega)
        have g13 : ((c.toNat : Int) != 13) = false := by simp only [bne, f13]; rfl
        clear h c47
        go_wp2_with fail
        go_roundw
        case rel => exact ⟨k + 1, by omega, by go_num, HV.out, trivial⟩
        case measure => simp only [intOf]; omega
    · simp only [not_or] at hone
      obtain ⟨n1, n2, n3, n4⟩ := hone
      have f32 : ((c.toNat : Int) == 32) = false := beq_eq_false_iff_ne.2 (by omega)
      have g32 : ((c.toNat : Int) != 32) = true := by simp only [bne, f32]; rfl
      have f9 : ((c.toNat : Int) == 9) = false := beq_eq_false_iff_ne.2 (by omega)
      have g9 : ((c.toNat : Int) != 9) = true := by simp only [bne, f9]; rfl
      have f10 : ((c.toNat : Int) == 10) = false := beq_eq_false_iff_ne.2 (by omega)
      have g10 : ((c.toNat : Int) != 10) = true := by simp only [bne, f10]; rfl
      have f13 : ((c.toNat : Int) == 13) = false := beq_eq_false_iff_ne.2 (by omega)
      have g13 : ((c.toNat : Int) != 13) = true := by simp only [bne, f13]; rfl
      have HV := Lib.hid (show idleV s.data.toList = false by rw [hv, hd, idle_bad (fun h => c47 h.1) n1 n2 n3 n4])
      clear hv hd n1 n2 n3 n4 c47
      go_wp2_with fail
      go_ret
      exact ⟨ret_bool HV.out.symm, rfl⟩
theorem rnext (s : ByteArray) (i : Nat) (w : World) (hs : s.size ≤ 999990) (hi : i < s.size) :
  Calls Tryz.prog 35 #[.string s, .int .i64 (i : Int)] w fun e w' => NextOut s.data.toList i e ∧ Below w.heap.size w w' := by
 cases h1 : atB isLet s.data.toList i with
 | true => exact rnext_word s i w hs hi h1
 | false =>
  cases h2 : atB isDig s.data.toList i with
  | true => exact rnext_num s i w hs hi h1 h2
  | false =>
   cases h3 : atB (· == 34) s.data.toList i with
   | true => exact rnext_str s i w hs hi h1 h2 h3
   | false =>
    cases h4 : atB (· == 59) s.data.toList i with
    | true => exact rnext_semi s i w hs hi h1 h2 h4
    | false => exact rnext_mark s i w hs hi h1 h2 h3 h4
/-- What the document's Tokens answers. -/
def RTokens (w : World) (L : BL) (e : Ending) (w' : World) : Prop := match tokensV L with
 | .ok l => ∃ v, e = .returned (.tuple #[v, .int .i64 0, .int .i64 0]) ∧ Own tkC 4 31 w' w.heap.size v l
 | .error (p, er) => e = .returned (.tuple #[.slice none 0 0, .int .i64 (p : Nat), .int .i64 er])
theorem line_push {last : Option Tk} {many : Nat} {acc : List Tk} (y : Tk) (h : LineIs last many acc) : LineIs (some y) (many + 1) (acc ++ [y]) := ⟨by omega, acc, rfl⟩
theorem close_len (acc : List Tk) (last : Option Tk) : (closeV acc last).length ≤ acc.length + 1 := by
 unfold closeV
 split
 · omega
 · split
   · simp
   · omega
theorem tk_arr (kd : Nat) (tx : ByteArray) (a b : Nat) : (#[Value.int .i64 (kd : Int), .string tx, .int .i64 (a : Int), .int .i64 (b : Int)] : Array Value) = (tkC ⟨kd, tx.data.toList, a, b⟩).toArray := by
 unfold tkC; simp only [toBA_eta]
set_option maxRecDepth 100000 in
set_option maxHeartbeats 6400000 in
theorem rtokens_ok (s : ByteArray) (w : World) (hs : s.size ≤ 65536) (hbr : brkV s.data.toList 0 = none) :
  Calls Tryz.prog 11 #[.string s] w fun e w' => RTokens w s.data.toList e w' ∧ Below w.heap.size w w' := by
 have hsz : s.data.toList.length = s.size := rfl
 have HSZ := Lib.hid hsz
 have hbk := rbroken s w (by omega)
 rw [hbr] at hbk
 have HBK := Lib.hid (show Calls Tryz.prog 32 #[.string s] w fun e w' => e = .returned (.int .i64 (-1)) ∧ w' = w from hbk)
 obtain ⟨i31', hi31, hz0, hz1, hz2⟩ := info_cut info31
 have htv : tokensV s.data.toList = lexV eFv s.data.toList 0 [] none := by
  unfold tokensV; rw [if_neg (by rw [hsz]; omega), hbr]
 have hle : ¬ (65536 : Int) < (s.size : Int) := by omega
 have HTV := Lib.hid htv
 have HNX := Lib.hid (fun k (hk : k < s.size) w => rnext s k w (by omega) hk)
 have HIS := Lib.hid (fun k x (hk : k ≤ 1000000) w => ris s k x w (by omega) (by omega))
 have HB0 := Lib.hid (Below.refl w.heap.size w)
 clear hsz hbr hbk htv
 go_enter Tryz.func11, Tryz.ntmps11
 go_wp2_with fail
 refine HBK.out.mono ?_
 rintro e w1 ⟨rfl, rfl⟩
 go_wp2_with fail
 go_loopw [6, 7, 8] (fun lv mv iv wr => ∃ (k many : Nat) (acc : List Tk) (last : Option Tk), k ≤ s.size ∧ iv = .int .i64 k ∧ mv = .int .i64 many ∧ LineIs last many acc ∧ Own tkC 4 31 wr w1.heap.size lv acc ∧
  tokensV s.data.toList = lexV eFv s.data.toList k acc last ∧ Below w1.heap.size w1 wr ∧ acc.length ≤ 2 * k ∧ many ≤ k) (fun _ _ iv _ => s.size - (intOf iv).toNat)
 case atStart => exact ⟨0, 0, [], none, Nat.zero_le _, rfl, rfl, rfl, Own.nil_, HTV.out, HB0.out, Nat.zero_le _, Nat.le_refl _⟩
 case round =>
  obtain ⟨k, many, acc, last, hk, rfl, rfl, hline, hown, hv, hbe, hal, hmk⟩ := hrel
  obtain ⟨ao, ln, cp, rfl⟩ := own_slice5 hown
  have HO := Lib.hid hown
  have HBE := Lib.hid hbe
  have HLN := Lib.hid hline
  clear HTV HB0 hown hbe hline
  by_cases hlt : k < s.size
  case neg =>
   have hlt2 : ¬ (k : Int) < (s.size : Int) := by omega
   have HV := Lib.hid (hv.trans (lexV_nil (List.drop_of_length_le (by rw [HSZ.out]; omega))))
   have HP := Lib.hid (rput w1.heap.size _ acc last many wr HBE.out.size HO.out (by omega) HLN.out)
   clear hv
   go_wp2_with fail
   refine HP.out.mono ?_
   rintro e w2 ⟨v2, rfl, ho2, hb2⟩
   obtain ⟨ao2, ln2, cp2, rfl⟩ := own_slice5 ho2
   go_wp2_with fail
   go_ret3
   refine ⟨?_, HBE.out.trans hb2⟩
   unfold RTokens
   rw [HV.out]
   exact ⟨_, rfl, ho2⟩
  have hlt2 : (k : Int) < (s.size : Int) := by omega
  obtain ⟨c, hc⟩ : ∃ c, s[k] = c := ⟨_, rfl⟩
  have hd := drop_at (at_get hlt)
  rw [hc] at hd
  rw [lexV_cons hd] at hv
  by_cases c10 : c.toNat = 10
  · have b10 : ((c.toNat : Int) == 10) = true := beq_iff_eq.2 (by omega)
    rw [if_neg (by simp [isBl, c10]), if_pos c10] at hv
    have HV := Lib.hid hv
    have HP := Lib.hid (rput w1.heap.size _ acc last many wr HBE.out.size HO.out (by omega) HLN.out)
    have hcl := close_len acc last
    clear hv hd c10
    go_wp2_with fail
    refine HP.out.mono ?_
    rintro e w2 ⟨v2, rfl, ho2, hb2⟩
    obtain ⟨ao2, ln2, cp2, rfl⟩ := own_slice5 ho2
    have HO2 := Lib.hid ho2
    have HB2 := Lib.hid (HBE.out.trans hb2)
    clear ho2 hb2
    go_wp2_with fail
    go_roundw
    case rel => exact ⟨k + 1, 0, closeV acc last, none, by omega, by go_num, rfl, rfl, HO2.out, HV.out, HB2.out, by omega, by omega⟩
    case measure => simp only [intOf]; omega
  have b10 : ((c.toNat : Int) == 10) = false := beq_eq_false_iff_ne.2 (by omega)
  by_cases cb : isBl c = true
  · rw [if_pos cb] at hv
    have HV := Lib.hid hv
    have hcb : c.toNat = 32 ∨ c.toNat = 9 ∨ c.toNat = 13 := by simpa [isBl, or_assoc] using cb
    clear hv hd c10 cb
    rcases hcb with h | h | h
    · have f32 : ((c.toNat : Int) == 32) = true := beq_iff_eq.2 (by omega)
      clear h
      go_wp2_with fail
      go_roundw
      case rel => exact ⟨k + 1, many, acc, last, by omega, by go_num, rfl, HLN.out, HO.out, HV.out, HBE.out, by omega, by omega⟩
      case measure => simp only [intOf]; omega
    · have f32 : ((c.toNat : Int) == 32) = false := beq_eq_false_iff_ne.2 (by omega)
      have f9 : ((c.toNat : Int) == 9) = true := beq_iff_eq.2 (by omega)
      clear h
      go_wp2_with fail
      go_roundw
      case rel => exact ⟨k + 1, many, acc, last, by omega, by go_num, rfl, HLN.out, HO.out, HV.out, HBE.out, by omega, by omega⟩
      case measure => simp only [intOf]; omega
    · have f32 : ((c.toNat : Int) == 32) = false := beq_eq_false_iff_ne.2 (by omega)
      have f9 : ((c.toNat : Int) == 9) = false := beq_eq_false_iff_ne.2 (by omega)
      have f13 : ((c.toNat : Int) == 13) = true := beq_iff_eq.2 (by omega)
      clear h
      go_wp2_with fail
      go_roundw
      case rel => exact ⟨k + 1, many, acc, last, by omega, by go_num, rfl, HLN.out, HO.out, HV.out, HBE.out, by omega, by omega⟩
      case measure => simp only [intOf]; omega
  rw [if_neg cb, if_neg c10] at hv
  have hnb : c.toNat ≠ 32 ∧ c.toNat ≠ 9 ∧ c.toNat ≠ 13 := by
   have : isBl c = false := by simpa using cb
   simpa [isBl, not_or, and_assoc] using this
  have f32 : ((c.toNat : Int) == 32) = false := beq_eq_false_iff_ne.2 (by omega)
  have f9 : ((c.toNat : Int) == 9) = false := beq_eq_false_iff_ne.2 (by omega)
  have f13 : ((c.toNat : Int) == 13) = false := beq_eq_false_iff_ne.2 (by omega)
  clear cb c10 hnb
  have hat : atB (· == 47) s.data.toList (k + 1) = decide ((s.data.toList.drop (k + 1)).head? = some 47) := by
   rw [Bool.eq_iff_iff, is_some, decide_eq_true_eq, List.head?_drop]
  have HI := Lib.hid (HIS.out (k + 1) 47 (by omega) wr)
  rw [hat] at HI
  clear hat
  by_cases hcm : c.toNat = 47 ∧ (s.data.toList.drop (k + 1)).head? = some 47
  · rw [if_pos hcm] at hv
    rw [decide_eq_true hcm.2] at HI
    obtain ⟨z, hz⟩ : ∃ z, k + comN (s.data.toList.drop k) = z := ⟨_, rfl⟩
    have hcy := com_yes hlt hc (by omega)
    rw [show k + 1 + comN (s.data.toList.drop (k + 1)) = z by omega] at hv
    have hle2 := com_le (s.data.toList.drop k)
    rw [List.length_drop, HSZ.out] at hle2
    have HV := Lib.hid hv
    have HZ := Lib.hid hz
    have hzl : z ≤ s.size := by omega
    have hkz : k < z := by omega
    have b47 : ((c.toNat : Int) == 47) = true := beq_iff_eq.2 (by omega)
    clear hv hd hcm hcy hle2 hz
    go_wp2_with fail
    refine HI.out.mono ?_
    rintro e w2 ⟨rfl, rfl⟩
    go_wp2_with fail
    go_loopw [8] (fun iv wx => ∃ m : Nat, m ≤ z ∧ iv = .int .i64 m ∧ m + comN (s.data.toList.drop m) = z ∧ k ≤ m ∧ wx = w2) (fun iv _ => z - (intOf iv).toNat)
    case atStart => exact ⟨k, by have := HZ.out; omega, rfl, HZ.out, Nat.le_refl _, rfl⟩
    case round =>
     obtain ⟨m, hm, rfl, hmz, hkm, rfl⟩ := hrel
     by_cases hml : m < s.size
     · have hml2 : (m : Int) < (s.size : Int) := by omega
       obtain ⟨x, hx⟩ : ∃ x, s[m] = x := ⟨_, rfl⟩
       by_cases x10 : x.toNat = 10
       · have g10 : ((x.toNat : Int) == 10) = true := beq_iff_eq.2 (by omega)
         have g10' : ((x.toNat : Int) != 10) = false := by simp only [bne, g10]; rfl
         have hmm := com_no hml hx x10
         obtain rfl : m = z := by omega
         clear hmz hmm hm
         go_wp2_with fail
         go_roundw
         case rel => exact ⟨m, many, acc, last, by omega, rfl, rfl, HLN.out, HO.out, HV.out, HBE.out, by omega, by omega⟩
         case measure => simp only [intOf]; omega
       · have g10 : ((x.toNat : Int) == 10) = false := beq_eq_false_iff_ne.2 (by omega)
         have g10' : ((x.toNat : Int) != 10) = true := by simp only [bne, g10]; rfl
         have hmm := com_yes hml hx x10
         have HM := Lib.hid (show m + 1 + comN (s.data.toList.drop (m + 1)) = z by omega)
         have hm1 : m + 1 ≤ z := by omega
         clear hmz hmm hm
         go_wp2_with fail
         go_roundw
         case rel => exact ⟨m + 1, hm1, by go_num, HM.out, by omega, trivial⟩
         case measure => simp only [intOf]; omega
     · have hml2 : ¬ (m : Int) < (s.size : Int) := by omega
       have hmm := com_end (s := s) (m := m) (by omega)
       obtain rfl : m = z := by omega
       clear hmz hmm hm
       go_wp2_with fail
       go_roundw
       case rel => exact ⟨m, many, acc, last, by omega, rfl, rfl, HLN.out, HO.out, HV.out, HBE.out, by omega, by omega⟩
       case measure => simp only [intOf]; omega
  rw [if_neg hcm] at hv
  obtain ⟨er, kd, n, htk⟩ : ∃ er kd n, takeV eFv (c :: s.data.toList.drop (k + 1)) = (er, kd, n) := ⟨_, _, _, rfl⟩
  rw [htk] at hv
  have hpos := take_pos (eF := eFv) (L := c :: s.data.toList.drop (k + 1)) (by simp)
  have hln := takeV_le eFv (c :: s.data.toList.drop (k + 1))
  rw [htk] at hpos hln
  rw [← hd, List.length_drop, HSZ.out] at hln
  simp only at hpos hln hv
  have htk2 : takeV eFv (s.data.toList.drop k) = (er, kd, n) := by rw [hd]; exact htk
  obtain ⟨z, hz⟩ : ∃ z, k + n = z := ⟨_, rfl⟩
  have HNK := Lib.hid (show ∀ w, Calls Tryz.prog 35 #[.string s, .int .i64 (k : Int)] w fun e w' => (∃ (k' : Nat) (t : ByteArray) (a b : Nat), e = .returned (.tuple #[tokV k' t a b, .int .i64 er]) ∧ (er = 0 → k' = kd ∧ t.data.toList = (s.data.toList.drop k).take n ∧ a = k ∧ b = z)) ∧ Below w.heap.size w w' from fun w => (HNX.out k hlt w).mono (fun e w' ⟨h1, h2⟩ => ⟨by
   unfold NextOut at h1
   rw [htk2, hz] at h1
   exact h1, h2⟩))
  rw [hz] at hv
  rw [← hd] at hv
  have hzl : z ≤ s.size := by omega
  have HZ := Lib.hid hz
  clear htk2 htk hz
  by_cases her : er = 0
  · subst her
    have hn0 : 0 < n := hpos rfl
    have hkz : k < z := by have := HZ.out; omega
    rw [if_pos ⟨rfl, hn0⟩] at hv
    have HV := Lib.hid hv
    clear hv hpos
    by_cases h47 : c.toNat = 47
    · skip
      have h2 : ¬ (s.data.toList.drop (k + 1)).head? = some 47 := fun e => hcm ⟨h47, e⟩
      rw [decide_eq_false h2] at HI
      have b47 : ((c.toNat : Int) == 47) = true := beq_iff_eq.2 (by omega)
      clear hcm h47 h2 hd
      go_wp2_with fail
      refine HI.out.mono ?_
      rintro e w2 ⟨rfl, rfl⟩
      go_wp2_with fail
      refine (HNK.out _).mono ?_
      rintro e w3 ⟨⟨k', tx, a, b, rfl, hok⟩, hb3⟩
      obtain ⟨rfl, htx, rfl, rfl⟩ := hok trivial
      have HO3 := Lib.hid ((HO.out.below hb3).alloc (.cells #[.int .i64 (k' : Int), .string tx, .int .i64 (a : Int), .int .i64 (b : Int)] 31))
      have HB3 := Lib.hid ((HBE.out.trans (hb3.mono HBE.out.size)).alloc (Nat.le_trans HBE.out.size hb3.size) (.cells #[.int .i64 (k' : Int), .string tx, .int .i64 (a : Int), .int .i64 (b : Int)] 31))
      have hs3 := hb3.size
      have HTX := Lib.hid htx
      clear hok hb3 htx
      unfold tokV
      go_wp2_with (at_builtin; go_must (refine wpList_append_one (cs := tkC) rfl _ _ 27 rfl 31 i31' _ 40 Tryz.underlying27 hi31 hz0 hz1 hz2 rfl (by decide) tkC_len tkC_one (w3.alloc (.cells #[.int .i64 (k' : Int), .string tx, .int .i64 (a : Int), .int .i64 (b : Int)] 31)) w1.heap.size _ _ acc ⟨k', tx.data.toList, a, b⟩ _ (tk_arr k' tx a b) (by rfl) (by rfl) (by rw [World.size_alloc]) HO3.out (by unfold maxLen; omega) (by omega) HB3.out.size ?_); intro v' w4 hown' hgrow hat; obtain ⟨ao4, ln4, cp4, rfl⟩ := own_slice5 hown'; have HO4 := Lib.hid hown'; have HB4 := Lib.hid (below_grown HB3.out HO3.out HB3.out.size hgrow); obtain ⟨d0, d1, d2, d3, dz, dl⟩ := tcells ((hgrow.block w3.heap.size (by rw [World.size_alloc]; omega) (fun e => by have := (HO.out.lt _ e.symm).2; omega)).trans (heap_alloc_new w3 _)); clear hown' hgrow hat)
      go_roundw
      case rel => exact ⟨b, many + 1, acc ++ [⟨k', tx.data.toList, a, b⟩], some ⟨k', tx.data.toList, a, b⟩, hzl, rfl, by go_num, line_push _ HLN.out, HO4.out, by rw [HV.out, HTX.out], HB4.out, by simp; omega, by omega⟩
      case measure => simp only [intOf]; omega
    · skip
      have b47 : ((c.toNat : Int) == 47) = false := beq_eq_false_iff_ne.2 (by omega)
      clear hcm h47 hd
      go_wp2_with fail
      refine (HNK.out _).mono ?_
      rintro e w3 ⟨⟨k', tx, a, b, rfl, hok⟩, hb3⟩
      obtain ⟨rfl, htx, rfl, rfl⟩ := hok trivial
      have HO3 := Lib.hid ((HO.out.below hb3).alloc (.cells #[.int .i64 (k' : Int), .string tx, .int .i64 (a : Int), .int .i64 (b : Int)] 31))
      have HB3 := Lib.hid ((HBE.out.trans (hb3.mono HBE.out.size)).alloc (Nat.le_trans HBE.out.size hb3.size) (.cells #[.int .i64 (k' : Int), .string tx, .int .i64 (a : Int), .int .i64 (b : Int)] 31))
      have hs3 := hb3.size
      have HTX := Lib.hid htx
      clear hok hb3 htx
      unfold tokV
      go_wp2_with (at_builtin; go_must (refine wpList_append_one (cs := tkC) rfl _ _ 27 rfl 31 i31' _ 40 Tryz.underlying27 hi31 hz0 hz1 hz2 rfl (by decide) tkC_len tkC_one (w3.alloc (.cells #[.int .i64 (k' : Int), .string tx, .int .i64 (a : Int), .int .i64 (b : Int)] 31)) w1.heap.size _ _ acc ⟨k', tx.data.toList, a, b⟩ _ (tk_arr k' tx a b) (by rfl) (by rfl) (by rw [World.size_alloc]) HO3.out (by unfold maxLen; omega) (by omega) HB3.out.size ?_); intro v' w4 hown' hgrow hat; obtain ⟨ao4, ln4, cp4, rfl⟩ := own_slice5 hown'; have HO4 := Lib.hid hown'; have HB4 := Lib.hid (below_grown HB3.out HO3.out HB3.out.size hgrow); obtain ⟨d0, d1, d2, d3, dz, dl⟩ := tcells ((hgrow.block w3.heap.size (by rw [World.size_alloc]; omega) (fun e => by have := (HO.out.lt _ e.symm).2; omega)).trans (heap_alloc_new w3 _)); clear hown' hgrow hat)
      go_roundw
      case rel => exact ⟨b, many + 1, acc ++ [⟨k', tx.data.toList, a, b⟩], some ⟨k', tx.data.toList, a, b⟩, hzl, rfl, by go_num, line_push _ HLN.out, HO4.out, by rw [HV.out, HTX.out], HB4.out, by simp; omega, by omega⟩
      case measure => simp only [intOf]; omega
  · rw [if_neg (fun h => her h.1)] at hv
    have HV := Lib.hid hv
    have hen : (er == 0) = false := beq_eq_false_iff_ne.2 her
    have hen2 : (er != 0) = true := by simp only [bne, hen]; rfl
    clear hv hpos
    by_cases h47 : c.toNat = 47
    · skip
      have h2 : ¬ (s.data.toList.drop (k + 1)).head? = some 47 := fun e => hcm ⟨h47, e⟩
      rw [decide_eq_false h2] at HI
      have b47 : ((c.toNat : Int) == 47) = true := beq_iff_eq.2 (by omega)
      clear hcm h47 h2 hd
      go_wp2_with fail
      refine HI.out.mono ?_
      rintro e w2 ⟨rfl, rfl⟩
      go_wp2_with fail
      refine (HNK.out _).mono ?_
      rintro e w3 ⟨⟨k', tx, a, b, rfl, hok⟩, hb3⟩
      have HB3 := Lib.hid (HBE.out.trans (hb3.mono HBE.out.size))
      have hs3 := hb3.size
      clear hok hb3
      unfold tokV
      go_wp2_with fail
      go_ret3
      refine ⟨?_, HB3.out.alloc (Nat.le_trans HBE.out.size hs3) _⟩
      unfold RTokens
      rw [HV.out]
      exact rfl
    · skip
      have b47 : ((c.toNat : Int) == 47) = false := beq_eq_false_iff_ne.2 (by omega)
      clear hcm h47 hd
      go_wp2_with fail
      refine (HNK.out _).mono ?_
      rintro e w3 ⟨⟨k', tx, a, b, rfl, hok⟩, hb3⟩
      have HB3 := Lib.hid (HBE.out.trans (hb3.mono HBE.out.size))
      have hs3 := hb3.size
      clear hok hb3
      unfold tokV
      go_wp2_with fail
      go_ret3
      refine ⟨?_, HB3.out.alloc (Nat.le_trans HBE.out.size hs3) _⟩
      unfold RTokens
      rw [HV.out]
      exact rfl
set_option maxRecDepth 100000 in
set_option maxHeartbeats 1600000 in
theorem rtokens (s : ByteArray) (w : World) : Calls Tryz.prog 11 #[.string s] w fun e w' => RTokens w s.data.toList e w' ∧ Below w.heap.size w w' := by
 by_cases hs : 65536 < s.size
 · have hgt : (65536 : Int) < (s.size : Int) := by omega
   have HTV := Lib.hid (show tokensV s.data.toList = .error (65536, 3) by unfold tokensV; rw [if_pos (show 65536 < s.data.toList.length from hs)])
   go_enter Tryz.func11, Tryz.ntmps11
   go_wp2_with fail
   go_ret3
   refine ⟨?_, Below.refl _ _⟩
   unfold RTokens; rw [HTV.out]; exact rfl
 · cases hb : brkV s.data.toList 0 with
   | none => exact rtokens_ok s w (by omega) hb
   | some k =>
    have hbk := rbroken s w (by omega)
    rw [hb] at hbk
    have HBK := Lib.hid (show Calls Tryz.prog 32 #[.string s] w fun e w' => e = .returned (.int .i64 (k : Int)) ∧ w' = w from hbk)
    have hgt : ¬ (65536 : Int) < (s.size : Int) := by omega
    have hk0 : (0 : Int) ≤ (k : Int) := by omega
    have HTV := Lib.hid (show tokensV s.data.toList = .error (k, 8) by unfold tokensV; rw [if_neg (show ¬ 65536 < s.data.toList.length from hs), hb])
    clear hbk hb
    go_enter Tryz.func11, Tryz.ntmps11
    go_wp2_with fail
    refine HBK.out.mono ?_
    rintro e w1 ⟨rfl, rfl⟩
    go_wp2_with fail
    go_ret3
    refine ⟨?_, Below.refl _ _⟩
    unfold RTokens; rw [HTV.out]; exact rfl
theorem valid_brk (L : BL) : Lib.validD L = decide (brkV L 0 = none) := by
 rw [Bool.eq_iff_iff, decide_eq_true_eq]
 exact valid_ok _ L (Nat.le_refl _)
set_option maxRecDepth 100000 in
set_option maxHeartbeats 3200000 in
theorem rvalue (s : ByteArray) (w : World) (hs : s.size ≤ 999990) :
  Calls Tryz.prog 17 #[.string s] w fun e w' => e = .returned (.tuple #[.string (toBA (valueL s.data.toList).1), .int .i64 (valueL s.data.toList).2]) ∧ Below w.heap.size w w' := by
 have hsz : s.data.toList.length = s.size := rfl
 have hi := fun w => ris s 0 34 w (by omega) (by omega)
 have hbk := fun w => rbroken s w (by omega)
 have hvb := valid_brk s.data.toList
 cases h34 : atB (· == 34) s.data.toList 0 with
 | false =>
  rw [h34] at hi
  have HI := Lib.hid hi
  have hq : quotV s.data.toList = none := by
   cases hl : s.data.toList with
   | nil => rfl
   | cons c r =>
    refine quotV_head (fun e => ?_)
    have : c = 34 := UInt8.toNat_inj.1 e
    rw [hl, this] at h34; cases h34
  have HV := Lib.hid (show valueL s.data.toList = ([], 4) by unfold valueL; rw [hq])
  clear hi hbk hvb h34 hq
  go_enter Tryz.func17, Tryz.ntmps17
  go_wp2_with (first | (go_at_call 34; refine (HI.out _).mono ?_; rintro e w1 ⟨rfl, rfl⟩))
  go_ret2
  exact ⟨by rw [HV.out]; rfl, Below.refl _ _⟩
 | true =>
  rw [h34] at hi
  have HI := Lib.hid hi
  have hlt := atB_lt h34
  rw [hsz] at hlt
  have hqv : quotV s.data.toList = quotAt s.data.toList 1 [] := by
   have := quot_at s.data.toList 0 h34
   rw [List.drop_zero] at this
   rw [this]
   cases quotAt s.data.toList (0 + 1) [] <;> rfl
  cases hbr : brkV s.data.toList 0 with
  | some k =>
   rw [hbr] at hvb
   have hbk := fun w => rbroken s w (by omega)
   rw [hbr] at hbk
   have HB := Lib.hid (show ∀ w, Calls Tryz.prog 32 #[.string s] w fun e w' => e = .returned (.int .i64 (k : Int)) ∧ w' = w from hbk)
   have hk0 : (0 : Int) ≤ (k : Int) := by omega
   have HV := Lib.hid (show valueL s.data.toList = ([], 4) by
    unfold valueL
    cases hq : quotV s.data.toList with
    | none => rfl
    | some vn =>
     obtain ⟨v, n⟩ := vn
     simp only
     rw [if_neg (by rw [hvb]; simp)])
   clear hi hbk hvb h34 hbr hqv
   go_enter Tryz.func17, Tryz.ntmps17
   go_wp2_with (first | (go_at_call 34; refine (HI.out _).mono ?_; rintro e w1 ⟨rfl, rfl⟩) | (go_at_call 32; refine (HB.out _).mono ?_; rintro e w1 ⟨rfl, rfl⟩))
   go_ret2
   exact ⟨by rw [HV.out]; rfl, Below.refl _ _⟩
  | none =>
   rw [hbr] at hvb
   have hbk := fun w => rbroken s w (by omega)
   rw [hbr] at hbk
   have HB := Lib.hid (show ∀ w, Calls Tryz.prog 32 #[.string s] w fun e w' => e = .returned (.int .i64 (-1)) ∧ w' = w from hbk)
   have hqq := fun w => rquoted s 0 w hs hlt
   rw [← hqv] at hqq
   cases hq : quotV s.data.toList with
   | none =>
    rw [hq] at hqq
    have HQ := Lib.hid (show ∀ w, Calls Tryz.prog 41 #[.string s, .int .i64 0] w fun e w' => e = .returned (.tuple #[.string ⟨#[]⟩, .int .i64 0]) ∧ Below w.heap.size w w' from hqq)
    have HV := Lib.hid (show valueL s.data.toList = ([], 4) by unfold valueL; rw [hq])
    clear hi hbk hvb h34 hbr hqv hqq hq
    go_enter Tryz.func17, Tryz.ntmps17
    go_wp2_with (first | (go_at_call 34; refine (HI.out _).mono ?_; rintro e w1 ⟨rfl, rfl⟩) | (go_at_call 32; refine (HB.out _).mono ?_; rintro e w1 ⟨rfl, rfl⟩) | (go_at_call 41; refine (HQ.out _).mono ?_; rintro e w1 ⟨rfl, hb1⟩))
    go_ret2
    exact ⟨by rw [HV.out]; rfl, hb1⟩
   | some vn =>
    obtain ⟨v, n⟩ := vn
    have hle := quotV_le hq
    rw [hsz] at hle
    rw [hq] at hqq
    have HQ := Lib.hid (show ∀ w, Calls Tryz.prog 41 #[.string s, .int .i64 0] w fun e w' => e = .returned (.tuple #[.string (toBA v), .int .i64 (n : Int)]) ∧ Below w.heap.size w w' from hqq)
    have hn0 : ((n : Int) == 0) = false := beq_eq_false_iff_ne.2 (by omega)
    by_cases hn : n = s.size
    · have b1 : ((n : Int) != (s.size : Int)) = false := by simp [hn]
      by_cases hl : 4096 < v.length
      · have hl2 : (4096 : Int) < ((toBA v).size : Int) := by rw [toBA_size]; omega
        have HV := Lib.hid (show valueL s.data.toList = ([], 3) by unfold valueL; rw [hq]; simp only; rw [if_pos ⟨by rw [hsz]; exact hn, by rw [hvb]; rfl⟩, if_pos hl])
        clear hi hbk hvb h34 hbr hqv hqq hq hl hn hle
        go_enter Tryz.func17, Tryz.ntmps17
        go_wp2_with (first | (go_at_call 34; refine (HI.out _).mono ?_; rintro e w1 ⟨rfl, rfl⟩) | (go_at_call 32; refine (HB.out _).mono ?_; rintro e w1 ⟨rfl, rfl⟩) | (go_at_call 41; refine (HQ.out _).mono ?_; rintro e w1 ⟨rfl, hb1⟩))
        go_ret2
        exact ⟨by rw [HV.out]; rfl, hb1⟩
      · have hl2 : ¬ (4096 : Int) < ((toBA v).size : Int) := by rw [toBA_size]; omega
        have HV := Lib.hid (show valueL s.data.toList = (v, 0) by unfold valueL; rw [hq]; simp only; rw [if_pos ⟨by rw [hsz]; exact hn, by rw [hvb]; rfl⟩, if_neg hl])
        clear hi hbk hvb h34 hbr hqv hqq hq hl hn hle
        go_enter Tryz.func17, Tryz.ntmps17
        go_wp2_with (first | (go_at_call 34; refine (HI.out _).mono ?_; rintro e w1 ⟨rfl, rfl⟩) | (go_at_call 32; refine (HB.out _).mono ?_; rintro e w1 ⟨rfl, rfl⟩) | (go_at_call 41; refine (HQ.out _).mono ?_; rintro e w1 ⟨rfl, hb1⟩))
        go_ret2
        exact ⟨by rw [HV.out]; rfl, hb1⟩
    · have b1 : ((n : Int) == (s.size : Int)) = false := beq_eq_false_iff_ne.2 (by omega)
      have b2 : ((n : Int) != (s.size : Int)) = true := by simp only [bne, b1]; rfl
      have HV := Lib.hid (show valueL s.data.toList = ([], 4) by unfold valueL; rw [hq]; simp only; rw [if_neg (fun h => hn (by rw [← hsz]; exact h.1))])
      clear hi hbk hvb h34 hbr hqv hqq hq hn hle
      go_enter Tryz.func17, Tryz.ntmps17
      go_wp2_with (first | (go_at_call 34; refine (HI.out _).mono ?_; rintro e w1 ⟨rfl, rfl⟩) | (go_at_call 32; refine (HB.out _).mono ?_; rintro e w1 ⟨rfl, rfl⟩) | (go_at_call 41; refine (HQ.out _).mono ?_; rintro e w1 ⟨rfl, hb1⟩))
      go_ret2
      exact ⟨by rw [HV.out]; rfl, hb1⟩
theorem lcut6 (s : ByteArray) (w : World) (hs : s.size ≤ 9223372036854775807) :
  Calls Tryz.prog 9 #[.string s] w fun e w' => (∃ t : ByteArray, e = .returned (.string t) ∧ t.size ≤ 6000) ∧ w' = w := by
 by_cases h : s.size ≤ 6000
 · have hm : min (s.size : Int) 6000 = (s.size : Int) := by omega
   go_enter Tryz.func9, Tryz.ntmps9
   go_wp2_with fail
   go_ret
   exact ⟨⟨_, rfl, by first | (rw [ext0_size (Nat.le_refl _)]; omega) | omega⟩, rfl⟩
 · have hm : min (s.size : Int) 6000 = 6000 := by omega
   have hle : (6000 : Int) ≤ (s.size : Int) := by omega
   go_enter Tryz.func9, Tryz.ntmps9
   go_wp2_with fail
   go_ret
   exact ⟨⟨_, rfl, by rw [ext0_size (by omega)]; exact Nat.le_refl _⟩, rfl⟩
set_option maxRecDepth 100000 in
set_option maxHeartbeats 3200000 in
theorem lawNames (s : ByteArray) (w : World) (hs : s.size ≤ 9223372036854775807) (hG : LexG w) :
  Calls Tryz.prog 7 #[.string s] w fun e w' => e = .returned (.bool true) ∧ Below w.heap.size w w' := by
 have HC := Lib.hid (lcut6 s w hs)
 have HG := Lib.hid hG
 clear hG
 go_enter Tryz.func7, Tryz.ntmps7
 go_wp2_with fail
 refine HC.out.mono ?_
 rintro e w1 ⟨⟨t, rfl, ht⟩, rfl⟩
 have HV := Lib.hid (fun w h => lvalue t w (by omega) h)
 have HR := Lib.hid (fun w => rvalue t w (by omega))
 obtain ⟨V, hV⟩ : ∃ V, toBA (valueL t.data.toList).1 = V := ⟨_, rfl⟩
 obtain ⟨er, her⟩ : ∃ er, (valueL t.data.toList).2 = er := ⟨_, rfl⟩
 rw [hV, her] at HV HR
 have A1 := Lib.hid (fun w => lReserved t w)
 have A2 := Lib.hid (fun w => rReserved t w)
 have B1 := Lib.hid (fun w => lName t w (by omega))
 have B2 := Lib.hid (fun w => rNamed t w (by omega))
 have C1 := Lib.hid (fun w => lExported t w (by omega))
 have C2 := Lib.hid (fun w => rExported t w (by omega))
 have HB0 := Lib.hid (Below.refl w1.heap.size w1)
 generalize hasB resW t.data.toList = a at A1 A2
 generalize nameV t.data.toList = b at B1 B2
 generalize expV t.data.toList = c at C1 C2
 clear hV her
 go_wp2_with fail
 refine (HV.out _ HG.out.u8).mono ?_
 rintro e w2 ⟨rfl, hb2⟩
 have HB2 := Lib.hid hb2
 clear hb2
 go_wp2_with fail
 refine (HR.out _).mono ?_
 rintro e w3 ⟨rfl, hb⟩
 have HB3 := Lib.hid (below_then HB2.out hb)
 clear hb
 go_wp2_with fail
 refine (A1.out _).mono ?_
 rintro e w4 ⟨rfl, hb⟩
 have HB4 := Lib.hid (below_then HB3.out hb)
 clear hb
 go_wp2_with fail
 refine (A2.out _).mono ?_
 rintro e w5 ⟨rfl, hb⟩
 have HB5 := Lib.hid (below_then HB4.out hb)
 clear hb
 go_wp2_with fail
 refine (B1.out _).mono ?_
 rintro e w6 ⟨rfl, hb⟩
 have HB6 := Lib.hid (below_then HB5.out hb)
 clear hb
 go_wp2_with fail
 refine (B2.out _).mono ?_
 rintro e w7 ⟨rfl, hb⟩
 have HB7 := Lib.hid (below_then HB6.out hb)
 clear hb
 go_wp2_with fail
 refine (C1.out _).mono ?_
 rintro e w8 ⟨rfl, hb⟩
 have HB8 := Lib.hid (below_then HB7.out hb)
 clear hb
 go_wp2_with fail
 refine (C2.out _).mono ?_
 rintro e w9 ⟨rfl, hb⟩
 have HB9 := Lib.hid (below_then HB8.out hb)
 clear hb
 go_wp2_with fail
 refine (lawake _ (HG.out.below HB9.out)).mono ?_
 rintro e w10 ⟨rfl, hb⟩
 have HB10 := Lib.hid (below_then HB9.out hb)
 clear hb
 go_wp2_with fail
 go_ret
 exact ⟨rfl, HB10.out⟩
set_option maxRecDepth 100000 in
set_option maxHeartbeats 3200000 in
theorem lawTokens (s : ByteArray) (w : World) (hs : s.size ≤ 9223372036854775807) (hG : LexG w) :
  Calls Tryz.prog 3 #[.string s] w fun e w' => e = .returned (.bool true) ∧ Below w.heap.size w w' := by
 have HC := Lib.hid (lcut6 s w hs)
 have HG := Lib.hid hG
 clear hG
 go_enter Tryz.func3, Tryz.ntmps3
 go_wp2_with fail
 refine HC.out.mono ?_
 rintro e w1 ⟨⟨t, rfl, ht⟩, rfl⟩
 have HT := Lib.hid (ltokensAll t w1 HG.out)
 have HR := Lib.hid (fun w => rtokens t w)
 go_wp2_with fail
 refine HT.out.mono ?_
 rintro e w2 ⟨h1, hb2⟩
 have HB2 := Lib.hid hb2
 unfold TokensOut at h1
 have HRR := HR.out w2
 unfold RTokens at HRR
 cases htv : tokensV t.data.toList with
 | error pe =>
  obtain ⟨p, er⟩ := pe
  rw [htv] at h1 HRR
  have HX := Lib.hid (show Calls Tryz.prog 11 #[.string t] w2 fun e w' => e = .returned (.tuple #[.slice none 0 0, .int .i64 (p : Nat), .int .i64 er]) ∧ Below w2.heap.size w2 w' from HRR)
  obtain rfl : e = .returned (.tuple #[.slice none 0 0, .int .i64 (p : Nat), .int .i64 er]) := h1
  clear HRR htv hb2
  go_wp2_with fail
  refine HX.out.mono ?_
  rintro e w3 ⟨rfl, hb⟩
  have HB3 := Lib.hid (below_then HB2.out hb)
  clear hb
  go_wp2_with fail
  go_loopw [9] (fun iv wr => iv = .int .i64 0 ∧ wr = w3) (fun _ _ => 0)
  case atStart => exact ⟨rfl, rfl⟩
  case round =>
   obtain ⟨rfl, rfl⟩ := hrel
   go_wp2_with fail
   refine (lawake _ (HG.out.below HB3.out)).mono ?_
   rintro e w4 ⟨rfl, hb⟩
   have HB4 := Lib.hid (below_then HB3.out hb)
   clear hb
   go_wp2_with fail
   go_ret
   exact ⟨rfl, HB4.out⟩
 | ok l =>
  rw [htv] at h1 HRR
  obtain ⟨v, rfl, hown, hlen⟩ := h1
  obtain ⟨A, cap, rfl, hcell⟩ := own_all hown
  have HL1 := Lib.hid hcell
  have HX := Lib.hid (show Calls Tryz.prog 11 #[.string t] w2 fun e w' => (∃ v, e = .returned (.tuple #[v, .int .i64 0, .int .i64 0]) ∧ Own tkC 4 31 w' w2.heap.size v l) ∧ Below w2.heap.size w2 w' from HRR)
  clear HRR htv hb2 hown hcell
  go_wp2_with fail
  refine HX.out.mono ?_
  rintro e w3 ⟨⟨v2, rfl, hown2⟩, hb⟩
  obtain ⟨A2, cap2, rfl, hcell2⟩ := own_all hown2
  have HL2 := Lib.hid hcell2
  have HB3 := Lib.hid (below_then HB2.out hb)
  have HB23 := Lib.hid hb
  clear hb hown2 hcell2
  go_wp2_with fail
  go_loopw [9] (fun iv wr => ∃ k : Nat, k ≤ l.length ∧ iv = .int .i64 k ∧ ∃ q, wr = w3.drewN q) (fun iv _ => l.length - (intOf iv).toNat)
  case atStart => exact ⟨0, Nat.zero_le _, rfl, 0, rfl⟩
  case round =>
   obtain ⟨k, hk, rfl, q, rfl⟩ := hrel
   by_cases hlt : k < l.length
   · have hlt2 : (k : Int) < (l.length : Int) := by omega
     have hk0 : (0 : Int) ≤ (k : Int) := by omega
     obtain ⟨y, hy⟩ : ∃ y, l[k]? = some y := ⟨_, List.getElem?_eq_getElem hlt⟩
     obtain ⟨g, rfl, hg, c0, c1, c2, c3⟩ := HL1.out k y hy
     obtain ⟨g2, rfl, hg2, d0, d1, d2, d3⟩ := HL2.out k y hy
     have e0 : w3.cell? ⟨g, k * 4, none⟩ = _ := (Below.cell HB23.out hg).trans c0
     have e1 : w3.cell? ⟨g, k * 4 + 1, none⟩ = _ := (Below.cell HB23.out hg).trans c1
     have e2 : w3.cell? ⟨g, k * 4 + 2, none⟩ = _ := (Below.cell HB23.out hg).trans c2
     have e3 : w3.cell? ⟨g, k * 4 + 3, none⟩ = _ := (Below.cell HB23.out hg).trans c3
     have f0 : w3.cell? ⟨g2, k * 4, none⟩ = _ := d0
     have f1 : w3.cell? ⟨g2, k * 4 + 1, none⟩ = _ := d1
     have f2 : w3.cell? ⟨g2, k * 4 + 2, none⟩ = _ := d2
     have f3 : w3.cell? ⟨g2, k * 4 + 3, none⟩ = _ := d3
     clear hy c0 c1 c2 c3 d0 d1 d2 d3
     generalize toBA y.text = tx at *
     go_wp2_with fail
     go_region
     generalize hWq : World.drewN _ _ = wq
     have hq2 : ∃ q2, wq = w3.drewN q2 := by
      rw [← hWq]; first | exact ⟨_, rfl⟩ | exact dr_dr _ _ _
     clear hWq
     go_wp2_with fail
     go_roundw
     case rel => exact ⟨k + 1, by omega, by go_num, hq2⟩
     case measure => simp only [intOf]; omega
   · have hlt2 : ¬ (k : Int) < (l.length : Int) := by omega
     go_wp2_with fail
     refine (lawake _ (HG.out.below (below_draws HB3.out q))).mono ?_
     rintro e w4 ⟨rfl, hb⟩
     have HB4 := Lib.hid (below_then (below_draws HB3.out q) hb)
     clear hb
     go_wp2_with fail
     go_ret
     exact ⟨rfl, HB4.out⟩
end Go.Proofs.YtclbmmiedihepaaGreatDoor
