/- The plain memo and the one in memory. Generic. -/
import Derived.Test.YtjghbcligjiaaaaEnds
namespace Go.Proofs.Ytjghbcligjiaaaa
open Go.RowKit Go.Maps Go.Sort
set_option linter.unusedVariables false
set_option linter.unusedSimpArgs false
/-- No list of the memo is longer than n. -/
structure SmA {τ : Type} (A : AS τ) (n : Nat) : Prop where
  kept : A.kept.length ≤ n
  making : A.making.length ≤ n
  wait : ∀ p ∈ A.making, p.2.2.length ≤ n
section
variable {X : Type}
theorem mem_setK {l : List (ByteArray × X)} {k : ByteArray} {y : X} {p : ByteArray × X} (h : p ∈ setK l k y) : p ∈ l ∨ p.2 = y := by
  unfold setK at h
  obtain ⟨q, hq, e⟩ := List.mem_map.1 h
  by_cases h2 : q.1 = k
  · rw [if_pos h2] at e; exact .inr (by rw [← e])
  · rw [if_neg h2] at e; exact .inl (e ▸ hq)
theorem len_setK (l : List (ByteArray × X)) (k : ByteArray) (y : X) : (setK l k y).length = l.length := by unfold setK; simp
theorem len_dropK_le (l : List (ByteArray × X)) (k : ByteArray) : (dropK l k).length ≤ l.length := List.length_filter_le _ _
theorem mem_dropK {l : List (ByteArray × X)} {k : ByteArray} {p : ByteArray × X} (h : p ∈ dropK l k) : p ∈ l := (List.mem_filter.1 h).1
end
section
variable {τ : Type} {A : AS τ} {n : Nat}
theorem askA_sm (h : SmA A n) (k : ByteArray) (who : Int) : SmA (askA A k who).1 (n + 1) := by
  obtain ⟨h1, h2, h3⟩ := h
  unfold askA
  cases hk : getK A.kept k with
  | some x => exact ⟨by simp; have := len_dropK_le A.kept k; omega, by simp; omega, fun p hp => by have := h3 p hp; omega⟩
  | none =>
    cases hf : getK A.making k with
    | none => exact ⟨by simp; omega, by simp; omega, fun p hp => by
        rcases List.mem_append.1 hp with hp | hp
        · have := h3 p hp; omega
        · simp at hp; subst hp; simp⟩
    | some f =>
      obtain ⟨a, l⟩ := f
      simp only
      split
      · exact ⟨by simp; omega, by simp; omega, fun p hp => by have := h3 p hp; omega⟩
      · split
        · exact ⟨by simp; omega, by simp; omega, fun p hp => by have := h3 p hp; omega⟩
        · refine ⟨by simp; omega, by simp [len_setK]; omega, fun p hp => ?_⟩
          rcases mem_setK hp with hp | hp
          · have := h3 p hp; omega
          · rw [hp]
            have := h3 _ (getK_mem hf)
            simp at this ⊢; omega
theorem giveA_sm (h : SmA A n) (k : ByteArray) (who : Int) (x : τ) : SmA (giveA A k who x).1 (n + 1) := by
  obtain ⟨h1, h2, h3⟩ := h
  unfold giveA
  cases hf : getK A.making k with
  | none => exact ⟨by simp; omega, by simp; omega, fun p hp => by have := h3 p hp; omega⟩
  | some f =>
    obtain ⟨a, l⟩ := f
    simp only
    split
    · refine ⟨?_, by simp; have := len_dropK_le A.making k; omega, fun p hp => by have := h3 p (mem_dropK hp); omega⟩
      simp only
      split
      · simp; omega
      · simp; omega
    · exact ⟨by simp; omega, by simp; omega, fun p hp => by have := h3 p hp; omega⟩
theorem SmA.mono {m : Nat} (h : SmA A n) (hm : n ≤ m) : SmA A m := ⟨Nat.le_trans h.kept hm, Nat.le_trans h.making hm, fun p hp => Nat.le_trans (h.wait p hp) hm⟩
theorem askA_most (A : AS τ) (k : ByteArray) (who : Int) : (askA A k who).1.most = A.most := by
  unfold askA
  repeat' (first | rfl | split)
theorem giveA_most (A : AS τ) (k : ByteArray) (who : Int) (x : τ) : (giveA A k who x).1.most = A.most := by
  unfold giveA
  repeat' (first | rfl | split)
end
section
variable {τ : Type} {S : MS τ} {k : ByteArray} {x : τ} {f : Fl} {who : Int}
theorem abs_making (S : MS τ) (k : ByteArray) : getK S.abs.making k = (getK S.making k).map flA := getK_map flA S.making k
theorem abs_hit (hk : getK S.kept k = some x) : askA S.abs k who = (({ S with kept := dropK S.kept k ++ [(k, x)] } : MS τ).abs, .hit x) := by
  unfold askA
  have : getK S.abs.kept k = some x := hk
  rw [this]; rfl
theorem abs_own (hk : getK S.kept k = none) (hf : getK S.making k = some f) : askA S.abs k f.who = (S.abs, .own) := by
  unfold askA
  have : getK S.abs.kept k = none := hk
  rw [this, abs_making, hf]
  simp [flA]
theorem abs_waits (hk : getK S.kept k = none) (hf : getK S.making k = some f) (hw : ¬ f.who = who) (hm : who ∈ f.wait) : askA S.abs k who = (S.abs, .wait) := by
  unfold askA
  have : getK S.abs.kept k = none := hk
  rw [this, abs_making, hf]
  simp [flA, hw, hm]
theorem abs_wait (hk : getK S.kept k = none) (hf : getK S.making k = some f) (hw : ¬ f.who = who) (hm : ¬ who ∈ f.wait) (ws' : Value) :
    askA S.abs k who = (({ S with making := setK S.making k { f with wait := f.wait ++ [who], ws := ws' } } : MS τ).abs, .wait) := by
  unfold askA
  have : getK S.abs.kept k = none := hk
  rw [this, abs_making, hf]
  simp only [Option.map_some, flA, if_neg hw, if_neg hm]
  have := setK_map flA S.making k { f with wait := f.wait ++ [who], ws := ws' }
  simp only [flA] at this
  unfold MS.abs
  simp only [Prod.mk.injEq, AS.mk.injEq, true_and, and_true]
  exact this
theorem abs_make (hk : getK S.kept k = none) (hf : getK S.making k = none) (h1 : f.who = who) (h2 : f.wait = []) : askA S.abs k who = (({ S with making := S.making ++ [(k, f)] } : MS τ).abs, .make) := by
  unfold askA
  have : getK S.abs.kept k = none := hk
  rw [this, abs_making, hf]
  simp [MS.abs, flA, h1, h2]
theorem abs_give_none (h : ∀ f, getK S.making k = some f → ¬ f.who = who) : giveA S.abs k who x = (S.abs, none) := by
  unfold giveA
  rw [abs_making]
  cases hf : getK S.making k with
  | none => rfl
  | some f => simp [flA, h f hf]
theorem abs_give (hf : getK S.making k = some f) : giveA S.abs k f.who x = (({ S with making := dropK S.making k, kept := if S.most < S.kept.length + 1 then (S.kept ++ [(k, x)]).tail else S.kept ++ [(k, x)] } : MS τ).abs, some f.wait) := by
  unfold giveA
  rw [abs_making, hf]
  simp only [Option.map_some, flA, if_true]
  have := dropK_map flA S.making k
  simp only [flA] at this
  unfold MS.abs
  simp only [Prod.mk.injEq, AS.mk.injEq, true_and, and_true]
  exact this
end
/-- Who waits for a key. -/
def waitA {τ : Type} (A : AS τ) (k : ByteArray) : List Int := match getK A.making k with | some (_, l) => l | none => []
/-- The memo went on to A. -/
def Steps {τ : Type} (P : Program) (T : MT τ) (st : Int) (w : World) (S : MS τ) (B : MB) (w' : World) (A : AS τ) : Prop :=
  ∃ S' B', MemoAt P T w' st S' B' ∧ S'.abs = A ∧ B'.m = B.m ∧ (∀ b ∈ foot S' B', b ∈ foot S B ∨ w.heap.size ≤ b) ∧ Only (foot S B) w w'
/-- What ask hands back. -/
def AskV {τ : Type} (T : MT τ) (w' : World) (who : Int) (r : AskR τ) (v p c : Value) : Prop :=
  match r with
  | .hit x => v = T.enc x ∧ p = .pointer none ∧ c = .int .i64 1
  | .make => v = T.zero ∧ (∃ b, p = .pointer (some ⟨b, 0, none⟩)) ∧ c = .int .i64 2
  | .wait => v = T.zero ∧ c = .int .i64 3 ∧ ∃ b fw, p = .pointer (some ⟨b, 0, none⟩) ∧ w'.cell? ⟨b, 0, none⟩ = some (.int .i64 fw) ∧ ¬ fw = who
  | .own => v = T.zero ∧ c = .int .i64 3 ∧ ∃ b, p = .pointer (some ⟨b, 0, none⟩) ∧ w'.cell? ⟨b, 0, none⟩ = some (.int .i64 who)
/-- What Ask hands back. -/
def askOut {τ : Type} (T : MT τ) (r : AskR τ) : Value :=
  match r with
  | .hit x => .tuple #[T.enc x, .int .i64 1, .int .i64 0]
  | .make => .tuple #[T.zero, .int .i64 2, .int .i64 0]
  | .wait => .tuple #[T.zero, .int .i64 3, .int .i64 0]
  | .own => .tuple #[T.zero, .int .i64 0, .int .i64 19]
section
variable {τ : Type} {P : Program} {T : MT τ} {st : Int} {S : MS τ} {B : MB} {w w' : World} {A : AS τ}
theorem Steps.same (h : MemoAt P T w st S B) (hA : S.abs = A) (e1 : w'.heap = w.heap) (e2 : w'.os = w.os) (e3 : w'.tape = w.tape) (e4 : w'.output = w.output) : Steps P T st w S B w' A :=
  ⟨S, B, h.keep (fun b _ => by rw [e1]), hA, rfl, fun b hb => .inl hb, ⟨e2, e3, e4, by rw [e1]; exact Nat.le_refl _, fun b _ _ => by rw [e1]⟩⟩
/-- Locked before, unlocked behind. -/
theorem Steps.round (h : MemoAt P T w 0 S B) {A : AS τ} {w2 : World} (hs : Steps P T 1 (w.setCell ⟨B.m, 0, none⟩ (.int .i32 1)) S B w2 A) : Steps P T 0 w S B (w2.setCell ⟨B.m, 0, none⟩ (.int .i32 0)) A := by
  obtain ⟨S', B', h1, h2, h3, h4, h5⟩ := hs
  have e : foot_m = foot_m (S := S) (B := B) := rfl
  refine ⟨S', B', ?_, h2, h3, fun b hb => ?_, ?_⟩
  · rw [← h3]
    exact h1.lock (set_heap h1.obj) (fun b _ hne => set_other hne)
  · rcases h4 b hb with h | h
    · exact .inl h
    · rw [set_size] at h; exact .inr h
  · exact (set_only foot_m).trans (h5.trans (set_only foot_m))
theorem Steps.c0 {A : AS τ} (hs : Steps P T st w S B w' A) : w'.cell? ⟨B.m, 0, none⟩ = some (.int .i32 st) ∧ w'.frozen? ⟨B.m, 0, none⟩ = false := by
  obtain ⟨S', B', h1, h2, h3, h4, h5⟩ := hs
  have := cells_of h1.obj
  rw [← h3]
  exact ⟨this.c0, this.fz 0⟩
end
/-- A memo at block m holds A; its blocks are F. -/
def Held {τ : Type} (P : Program) (T : MT τ) (w : World) (m : Nat) (A : AS τ) (F : List Nat) : Prop := ∃ S B, MemoAt P T w 0 S B ∧ S.abs = A ∧ B.m = m ∧ foot S B = F
/-- The blocks F' are of F, or new. -/
def Grow (F F' : List Nat) (w : World) : Prop := ∀ b ∈ F', b ∈ F ∨ w.heap.size ≤ b
section
variable {τ : Type} {P : Program} {T : MT τ} {w w' : World} {A : AS τ} {m : Nat} {F F' G : List Nat}
theorem Held.lt (h : Held P T w m A F) : ∀ b ∈ F, b < w.heap.size := by
  obtain ⟨S, B, h, _, _, rfl⟩ := h
  exact h.lt
theorem Held.keep (h : Held P T w m A F) (hk : ∀ b ∈ F, w'.heap[b]? = w.heap[b]?) : Held P T w' m A F := by
  obtain ⟨S, B, h, h1, h2, rfl⟩ := h
  exact ⟨S, B, h.keep hk, h1, h2, rfl⟩
theorem Held.other (h : Held P T w m A F) (ho : Only G w w') (hd : ∀ b ∈ F, b ∉ G) : Held P T w' m A F := h.keep fun b hb => ho.block b (h.lt b hb) (hd b hb)
theorem OffRow.other {e : TypeId} {v : Value} {l : List Value} (h : OffRow e w v l) (ho : Only G w w') (hd : ∀ q, v.ownBlock = some q → q ∉ G) : OffRow e w' v l := h.keep fun q hq => ho.block q (h.lt q hq) (hd q hq)
theorem Steps.held {S : MS τ} {B : MB} (h : Steps P T 0 w S B w' A) : ∃ F', Held P T w' B.m A F' ∧ Grow (foot S B) F' w ∧ Only (foot S B) w w' := by
  obtain ⟨S', B', h1, h2, h3, h4, h5⟩ := h
  exact ⟨_, ⟨S', B', h1, h2, h3, rfl⟩, h4, h5⟩
theorem Grow.base {b0 : Nat} (h : Grow F F' w) (hF : ∀ b ∈ F, b0 ≤ b) (hw : b0 ≤ w.heap.size) : ∀ b ∈ F', b0 ≤ b := fun b hb => by
  rcases h b hb with h | h
  · exact hF b h
  · omega
theorem Grow.off {q : Nat} (h : Grow F F' w) (hF : q ∉ F) (hw : q < w.heap.size) : q ∉ F' := fun hb => by
  rcases h q hb with h | h
  · exact hF h
  · omega
theorem Only.toBelow {b0 : Nat} (h : Only F w w') (hF : ∀ b ∈ F, b0 ≤ b) (hw : b0 ≤ w.heap.size) : RowKit.Below b0 w w' := ⟨h.os, h.tape, h.output, h.size, fun b hb => h.block b (by omega) (fun hm => by have := hF b hm; omega)⟩
end
/-- What Give hands back. -/
def GaveH (w' : World) (F F' : List Nat) (r : Option (List Int)) (v : Value) (c : Int) : Prop :=
  match r with
  | none => v = .slice none 0 0 ∧ c = 5
  | some l => OffRow (3 : TypeId) w' v (l.map (Value.int .i64)) ∧ c = 0 ∧ ∀ q, v.ownBlock = some q → q ∈ F ∧ q ∉ F'
/-- A memo at block m, its lock's word st, holds A; its blocks are F. -/
def HeldS {τ : Type} (P : Program) (T : MT τ) (st : Int) (w : World) (m : Nat) (A : AS τ) (F : List Nat) : Prop := ∃ S B, MemoAt P T w st S B ∧ S.abs = A ∧ B.m = m ∧ foot S B = F
section
variable {τ : Type} {P : Program} {T : MT τ} {w w' : World} {st : Int} {A : AS τ} {m : Nat} {F F' G : List Nat}
theorem HeldS.set (st' : Int) (h : HeldS P T st w m A F) : HeldS P T st' (w.setCell ⟨m, 0, none⟩ (.int .i32 st')) m A F ∧ Only F w (w.setCell ⟨m, 0, none⟩ (.int .i32 st')) := by
  obtain ⟨S, B, h, h1, rfl, rfl⟩ := h
  exact ⟨⟨S, B, h.lock (set_heap h.obj) (fun b _ hne => set_other hne), h1, rfl, rfl⟩, set_only foot_m⟩
theorem HeldS.c0 (h : HeldS P T st w m A F) : w.cell? ⟨m, 0, none⟩ = some (.int .i32 st) ∧ w.frozen? ⟨m, 0, none⟩ = false := by
  obtain ⟨S, B, h, h1, rfl, rfl⟩ := h
  have := cells_of h.obj
  exact ⟨this.c0, this.fz 0⟩
theorem HeldS.inF (h : HeldS P T st w m A F) : m ∈ F := by
  obtain ⟨S, B, h, h1, rfl, rfl⟩ := h
  exact foot_m
theorem HeldS.lt (h : HeldS P T st w m A F) : ∀ b ∈ F, b < w.heap.size := by
  obtain ⟨S, B, h, h1, rfl, rfl⟩ := h
  exact h.lt
theorem HeldS.other (h : HeldS P T st w m A F) (ho : Only G w w') (hd : ∀ b ∈ F, b ∉ G) : HeldS P T st w' m A F := by
  have hl := h.lt
  obtain ⟨S, B, h, h1, rfl, rfl⟩ := h
  exact ⟨S, B, h.keep (fun b hb => ho.block b (hl b hb) (hd b hb)), h1, rfl, rfl⟩
end
theorem make_none {τ : Type} {A : AS τ} {k : ByteArray} {who : Int} (h : (askA A k who).2 = .make) : getK A.kept k = none ∧ getK A.making k = none := by
  unfold askA at h
  cases hk : getK A.kept k with
  | some x => rw [hk] at h; cases h
  | none =>
    rw [hk] at h
    cases hf : getK A.making k with
    | none => exact ⟨rfl, rfl⟩
    | some f =>
      obtain ⟨a, l⟩ := f
      rw [hf] at h
      simp only at h
      split at h
      · cases h
      · split at h
        · cases h
        · cases h
theorem make_give {τ : Type} {A : AS τ} {k : ByteArray} {who : Int} (h : (askA A k who).2 = .make) (x : τ) : (giveA (askA A k who).1 k who x).2 = some [] := by
  obtain ⟨h1, h2⟩ := make_none h
  have e : (askA A k who).1 = { A with making := A.making ++ [(k, (who, []))] } := by unfold askA; rw [h1, h2]
  rw [e]
  unfold giveA
  simp only
  rw [getK_app, h2]
  simp
end Go.Proofs.Ytjghbcligjiaaaa
