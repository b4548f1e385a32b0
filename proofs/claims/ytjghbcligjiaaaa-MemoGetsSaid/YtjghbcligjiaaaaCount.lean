/- What is held in a memo, plainly; a map that counts each key once. -/
import Derived.Test.YtjghbcligjiaaaaHeldI
namespace Go.Proofs.Ytjghbcligjiaaaa
open Go.RowKit Go.Maps Go.Sort
set_option linter.unusedVariables false
set_option linter.unusedSimpArgs false
theorem keys_abs {τ : Type} (S : MS τ) : keys S.abs.making = keys S.making := by unfold keys MS.abs; rw [List.map_map]; rfl
/-- Two lists of keys, each once, none in both, none too long. -/
structure KM (K M : List ByteArray) : Prop where
  kept : K.Nodup
  making : M.Nodup
  apart : ∀ k ∈ K, k ∉ M
  skept : ∀ k ∈ K, k.size ≤ maxLen
  smaking : ∀ k ∈ M, k.size ≤ maxLen
abbrev KeysOk {τ : Type} (A : AS τ) : Prop := KM (keys A.kept) (keys A.making)
theorem getK_some {X : Type} {l : List (ByteArray × X)} {k : ByteArray} (h : k ∈ keys l) : ∃ x, getK l k = some x := by
  cases hg : getK l k with
  | some x => exact ⟨x, rfl⟩
  | none => exact absurd h (getK_none.1 hg)
theorem Held.keysOk {τ : Type} {P : Program} {T : MT τ} {w : World} {m : Nat} {A : AS τ} {F : List Nat} (hs : P.underlying T.str = some .string) (h : Held P T w m A F) : KeysOk A := by
  obtain ⟨S, B, h, rfl, _, _⟩ := h
  refine ⟨h.ukept, by rw [keys_abs]; exact h.umaking, fun k hk => by rw [keys_abs]; exact h.apart k hk, fun k hk => ?_, fun k hk => ?_⟩
  · obtain ⟨D, h1, h2⟩ := h.vals
    obtain ⟨x, hx⟩ := getK_some hk
    have hx' : getK S.kept k = some x := hx
    exact key_size hs h1 (by rw [h2.has, hx']; rfl)
  · rw [keys_abs] at hk
    obtain ⟨D, h1, h2⟩ := h.flts
    obtain ⟨x, hx⟩ := getK_some hk
    exact key_size hs h1 (by rw [h2.has, hx]; rfl)
theorem take_succ_at {X : Type} {l : List X} {j : Nat} {s : X} (h : l[j]? = some s) : l.take (j + 1) = l.take j ++ [s] := by
  rw [List.take_add_one, h]; rfl
theorem nodup_take {X : Type} {l : List X} {j : Nat} {s : X} (hn : l.Nodup) (h : l[j]? = some s) : s ∉ l.take j := by
  have e := take_succ_at h
  have h2 : (l.take (j + 1)).Nodup := hn.sublist (List.take_sublist _ _)
  rw [e, List.nodup_append] at h2
  exact fun hm => h2.2.2 s hm s (by simp) rfl
/-- The map in block b counts each key of L once. -/
def CMap (w : World) (b : Nat) (L : List ByteArray) : Prop := ∃ D, w.ownsMap Try.prog 9 (plainElem Try.prog 3) b L.length D ∧ Tie Ti.rdv D (L.map fun s => (s, (1 : Int)))
theorem keys_ones (L : List ByteArray) : keys (L.map fun s => (s, (1 : Int))) = L := by unfold keys; rw [List.map_map]; simp [Function.comp_def]
theorem getK_ones_in {L : List ByteArray} {k : ByteArray} (h : k ∈ L) : getK (L.map fun s => (s, (1 : Int))) k = some 1 := by
  obtain ⟨x, hx⟩ := getK_some (l := L.map fun s => (s, (1 : Int))) (by rw [keys_ones]; exact h)
  have hm := getK_mem hx
  obtain ⟨s, _, e⟩ := List.mem_map.1 hm
  simp at e
  rw [hx, ← e.2]
theorem getK_ones_out {L : List ByteArray} {k : ByteArray} (h : k ∉ L) : getK (L.map fun s => (s, (1 : Int))) k = none := getK_none.2 (by rw [keys_ones]; exact h)
theorem CMap.keep {w w' : World} {b : Nat} {L : List ByteArray} (h : CMap w b L) (hk : w'.heap[b]? = w.heap[b]?) : CMap w' b L := by
  obtain ⟨D, h1, h2⟩ := h
  exact ⟨D, owns_keep h1 hk, h2⟩
theorem CMap.made (w : World) : CMap (w.alloc (.map #[] 0)) w.heap.size [] := ⟨_, World.ownsMap_made w Try.prog 9 (plainElem (H := Unit) Try.prog 3), Tie.nil_⟩
theorem CMap.look0 {w : World} {b : Nat} {L : List ByteArray} (h : CMap w b L) {k : ByteArray} (hk : k.size ≤ maxLen) (hm : k ∉ L) : (Instr.lookup 49 (.map (some b)) (.string k) false).run Try.prog w = .ok (.int .i64 0) w := by
  obtain ⟨D, h1, h2⟩ := h
  obtain ⟨c, hr, hat, _⟩ := h1.lookup_int law9 Try.underlying49 Try.underlying3 (zrun3 w) (key9 hk)
  rw [hr]
  rw [h2.at_, getK_ones_out hm] at hat
  simp at hat
  simp [hat]
theorem CMap.look1 {w : World} {b : Nat} {L : List ByteArray} (h : CMap w b L) {k : ByteArray} (hk : k.size ≤ maxLen) (hm : k ∈ L) : (Instr.lookup 49 (.map (some b)) (.string k) false).run Try.prog w = .ok (.int .i64 1) w := by
  obtain ⟨D, h1, h2⟩ := h
  obtain ⟨c, hr, hat, _⟩ := h1.lookup_int law9 Try.underlying49 Try.underlying3 (zrun3 w) (key9 hk)
  rw [hr]
  rw [h2.at_, getK_ones_in hm] at hat
  simp at hat
  simp [hat]
theorem CMap.put {w1 : World} {b : Nat} {L : List ByteArray} {D : DataW Unit} (hT : Tie Ti.rdv D (L.map fun s => (s, (1 : Int)))) {k : ByteArray} (hk : k ∉ L)
    (h1 : w1.ownsMap Try.prog 9 (plainElem Try.prog 3) b (L.length + 1) (D.put (litS k) (.lit (.int .i64 1)))) : CMap w1 b (L ++ [k]) := by
  refine ⟨_, by simpa using h1, ?_⟩
  have := hT.put (k := k) (1 : Int) (by rw [keys_ones]; exact hk)
  simpa using this
theorem CMap.len {w : World} {b : Nat} {L : List ByteArray} (h : CMap w b L) (ty : TypeId) : (Builtin.len_ #[49] ty #[.map (some b)]).run Try.prog w = .ok (.int .i64 (L.length : Int)) w := by
  obtain ⟨D, h1, h2⟩ := h
  rw [h1.len Try.underlying49 ty, h2.size, List.length_map]
/-! ### the plain memo's bound -/
section
variable {A : AS Int} {n : Nat}
theorem askA_kept (h : A.kept.length ≤ n) (hn : (keys A.kept).Nodup) (k : ByteArray) (who : Int) : (askA A k who).1.kept.length ≤ n := by
  unfold askA
  cases hk : getK A.kept k with
  | some x =>
    have hm : k ∈ keys A.kept := by
      rcases Classical.em (k ∈ keys A.kept) with h | h
      · exact h
      · rw [getK_none.2 h] at hk; cases hk
    have := len_dropK hn hm
    simp; omega
  | none =>
    simp only
    cases hf : getK A.making k with
    | none => exact h
    | some f =>
      obtain ⟨a, l⟩ := f
      simp only
      split
      · exact h
      · split
        · exact h
        · exact h
theorem giveA_kept (h : A.kept.length ≤ n) (hm : A.most = n) (k : ByteArray) (who : Int) (x : Int) : (giveA A k who x).1.kept.length ≤ n := by
  unfold giveA
  cases hf : getK A.making k with
  | none => exact h
  | some f =>
    obtain ⟨a, l⟩ := f
    simp only
    split
    · simp only
      split
      · simp; omega
      · simp; omega
    · exact h
theorem waitA_mem (k : ByteArray) (h : waitA A k ≠ []) : k ∈ keys A.making := by
  unfold waitA at h
  rcases Classical.em (k ∈ keys A.making) with hm | hm
  · exact hm
  · rw [getK_none.2 hm] at h; exact absurd rfl h
end
/-- What the rounds keep. -/
structure BInv (w0 : World) (n m k : Nat) (A : AS Int) (F : List Nat) (w : World) : Prop where
  held : Held Try.prog Ti w m A F
  base : ∀ b ∈ F, w0.heap.size ≤ b
  below : Below w0.heap.size w0 w
  most : A.most = n
  kept : A.kept.length ≤ n
  sm : SmA A k
section
variable {w0 w w' : World} {n m k : Nat} {A : AS Int} {F F' : List Nat}
theorem BInv.keysOk (h : BInv w0 n m k A F w) : KeysOk A := Held.keysOk (P := Try.prog) (T := Ti) Try.underlying9 h.held
theorem BInv.same (h : BInv w0 n m k A F w) (hh : w'.heap = w.heap) (e1 : w'.os = w.os) (e2 : w'.tape = w.tape) (e3 : w'.output = w.output) : BInv w0 n m k A F w' :=
  ⟨h.held.keep (fun b _ => by rw [hh]), h.base, h.below.trans ⟨e1, e2, e3, by rw [hh]; exact Nat.le_refl _, fun b _ => by rw [hh]⟩, h.most, h.kept, h.sm⟩
theorem BInv.ask (h : BInv w0 n m k A F w) {key : ByteArray} {who : Int} (hh : Held Try.prog Ti w' m (askA A key who).1 F') (hg : Grow F F' w) (ho : Only F w w') : BInv w0 n m (k + 1) (askA A key who).1 F' w' :=
  ⟨hh, hg.base h.base h.below.size, h.below.trans (ho.toBelow h.base h.below.size), (askA_most A key who).trans h.most, askA_kept h.kept h.keysOk.kept key who, askA_sm h.sm key who⟩
theorem BInv.give (h : BInv w0 n m k A F w) {key : ByteArray} {who x : Int} (hh : Held Try.prog Ti w' m (giveA A key who x).1 F') (hg : Grow F F' w) (ho : Only F w w') : BInv w0 n m (k + 1) (giveA A key who x).1 F' w' :=
  ⟨hh, hg.base h.base h.below.size, h.below.trans (ho.toBelow h.base h.below.size), (giveA_most A key who x).trans h.most, giveA_kept h.kept h.most key who x, giveA_sm h.sm key who x⟩
theorem BInv.only (h : BInv w0 n m k A F w) (hh : Held Try.prog Ti w' m A F) (ho : Only F w w') : BInv w0 n m k A F w' :=
  ⟨hh, h.base, h.below.trans (ho.toBelow h.base h.below.size), h.most, h.kept, h.sm⟩
/-- What is new turns nothing here. -/
theorem BInv.aside {G : List Nat} (h : BInv w0 n m k A F w) (ho : Only G w w') (hG : ∀ b ∈ G, b ∉ F ∧ w0.heap.size ≤ b) : BInv w0 n m k A F w' :=
  ⟨h.held.other ho (fun b hb hm => (hG b hm).1 hb), h.base, h.below.trans (ho.toBelow (fun b hb => (hG b hb).2) h.below.size), h.most, h.kept, h.sm⟩
theorem BInv.later {G : List Nat} (h : BInv w0 n m k A F w) (ho : Only G w w') (hG : ∀ b ∈ G, w.heap.size ≤ b) : BInv w0 n m k A F w' :=
  ⟨h.held.other ho (fun b hb hm => by have := h.held.lt b hb; have := hG b hm; omega), h.base, h.below.trans (ho.toBelow (fun b hb => Nat.le_trans h.below.size (hG b hb)) h.below.size), h.most, h.kept, h.sm⟩
end
end Go.Proofs.Ytjghbcligjiaaaa
