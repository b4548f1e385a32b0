/- The document's Ask: one more waits. Out of: The document's entries in memory; find, but. The document's memo in memory, and how it turns. The document's memo: one more waits. The document's Ask: a key that nobody makes; a key that the one who asks makes. The document's Ask: one's own key; a key that one waits for. The document's Ask: a key that is kept. -/
import Derived.Test.YtjghbcligjiaaaaMem3
import Derived.Test.YtjghbcligjiaaaaInst
import Derived.Test.YtjghbcligjiaaaaAbs
import Derived.Deep.RegionHeld3
import Derived.Deep.RegionLaw
namespace Go.Proofs.Ytjghbcligjiaaaa
section
open Go.RowKit Go.Maps Go.Sort
set_option linter.unusedVariables false
set_option linter.unusedSimpArgs false
/-- An entry. -/
structure En where
  key : ByteArray
  x : Int
  who : Int
  wa : Option Addr
  wn : Nat
  wc : Nat
def En.cells (x : En) : List Value := [.string x.key, .int .i64 x.x, .int .i64 x.who, .slice x.wa x.wn x.wc]
theorem En.len (x : En) : x.cells.length = 4 := rfl
theorem En.one (x : En) : ∀ u ∈ x.cells, u.oneCell' = true := by simp [En.cells, Value.oneCell']
theorem Try.info92 : (Try.prog.info? 92).map (fun i => (i.zero, i.size, i.bytes)) = some (some (.agg #[.string ⟨#[]⟩, .int .i64 0, .int .i64 0, .slice none 0 0]), 4, 56) := by kernel_rfl
theorem en_at {w : World} {B : Nat} {A : Option Addr} {l : List En} {k : Nat} {x : En} (h : RowOf En.cells 4 w B A l) (hx : l[k]? = some x) : ∃ b off, A = some ⟨b, off, none⟩ ∧ b < B ∧
    w.cell? ⟨b, off + k * 4, none⟩ = some (.string x.key) ∧ w.cell? ⟨b, off + k * 4 + 1, none⟩ = some (.int .i64 x.x) ∧ w.cell? ⟨b, off + k * 4 + 2, none⟩ = some (.int .i64 x.who) ∧ w.cell? ⟨b, off + k * 4 + 3, none⟩ = some (.slice x.wa x.wn x.wc) := by
  have hlt : 0 < l.length := by
    cases l with
    | nil => simp at hx
    | cons _ _ => simp
  obtain ⟨b, off, e, hb, hc⟩ := h hlt
  exact ⟨b, off, e, hb, hc k x hx 0 _ rfl, hc k x hx 1 _ rfl, hc k x hx 2 _ rfl, hc k x hx 3 _ rfl⟩
/-- What find hands back. -/
def Found (L : List En) (key : ByteArray) (e : Ending) : Prop :=
  (∃ (i : Nat) (x : En), L[i]? = some x ∧ x.key = key ∧ e = .returned (.int .i64 (i : Int))) ∨ ((∀ x ∈ L, x.key ≠ key) ∧ e = .returned (.int .i64 (-1)))
theorem find_any (A : Option Addr) (c : Nat) (l : List En) (key : ByteArray) (B : Nat) (w : World) (hl : l.length ≤ 9223372036854775807) (hr : RowOf En.cells 4 w B A l) :
    Calls Try.prog 41 #[.slice A l.length c, .string key] w fun e w' => Found l key e ∧ ∃ q, w' = w.drewN q := by
  have HR := Lib.hid hr
  clear hr
  go_enter Try.func41, Try.ntmps41
  go_wp2_with fail
  go_loopw [5] (fun i wr => ∃ k : Nat, k ≤ l.length ∧ i = .int .i64 k ∧ (∀ j x, l[j]? = some x → j < k → x.key ≠ key) ∧ ∃ q, wr = w.drewN q) (fun i _ => l.length - (intOf i).toNat)
  case atStart => exact ⟨0, Nat.zero_le _, rfl, fun j _ _ h => absurd h (Nat.not_lt_zero _), 0, rfl⟩
  case round =>
    obtain ⟨k, hk, rfl, hno, q, rfl⟩ := hrel
    have HNO := Lib.hid hno
    clear hno
    by_cases hlt : k < l.length
    · obtain ⟨x, hx⟩ : ∃ x, l[k]? = some x := ⟨_, List.getElem?_eq_getElem hlt⟩
      obtain ⟨b, off, rfl, hb, d0, _, _, _⟩ := en_at HR.out hx
      have HX := Lib.hid hx
      clear hx
      by_cases he : x.key = key
      · have he2 : (x.key.toList == key.toList) = true := by rw [he]; simp
        have HE := Lib.hid he
        clear he
        go_wp2_with fail
        go_ret
        exact ⟨.inl ⟨k, x, HX.out, HE.out, rfl⟩, q, rfl⟩
      · have he2 : (x.key.toList == key.toList) = false := by
          simp only [beq_eq_false_iff_ne, ne_eq]
          exact fun e => he (by rw [ByteArray.toList_eq, ByteArray.toList_eq] at e; exact ByteArray.ext (Array.toList_inj.1 e))
        have HE := Lib.hid he
        clear he
        go_wp2_with fail
        go_roundw
        case rel => exact ⟨k + 1, by omega, by go_num, fun j z hj h => by
          rcases Nat.lt_or_ge j k with h1 | h1
          · exact HNO.out j z hj h1
          · obtain rfl : j = k := by omega
            have e := HX.out
            rw [hj] at e
            cases e
            exact HE.out, q, rfl⟩
        case measure => simp only [intOf]; omega
    · have hke : k = l.length := by omega
      subst hke
      go_wp2_with fail
      go_ret
      refine ⟨.inr ⟨fun x hx => ?_, rfl⟩, q, rfl⟩
      obtain ⟨j, hj, e⟩ := List.getElem_of_mem hx
      exact HNO.out j x (by rw [List.getElem?_eq_getElem hj, e]) hj
theorem erase_split {X : Type} (l : List X) (i : Nat) : l.eraseIdx i = l.take i ++ l.drop (i + 1) := List.eraseIdx_eq_take_drop_succ l i
theorem RowOf.dropped {w : World} {B : Nat} {b off : Nat} {l : List En} (h : RowOf En.cells 4 w B (some ⟨b, off, none⟩) l) (k : Nat) : RowOf En.cells 4 w B (some ⟨b, off + k * 4, none⟩) (l.drop k) := by
  intro hn
  obtain ⟨b', off', e, hb, hc⟩ := h (by rw [List.length_drop] at hn; omega)
  simp only [Option.some.injEq, Addr.mk.injEq, and_true] at e
  obtain ⟨rfl, rfl⟩ := e
  refine ⟨b, off + k * 4, rfl, hb, fun i x hx j v hv => ?_⟩
  rw [List.getElem?_drop] at hx
  have := hc (k + i) x hx j v hv
  rw [Nat.add_mul] at this
  rw [show off + k * 4 + i * 4 + j = off + (k * 4 + i * 4) + j by omega]
  exact this
set_option maxRecDepth 100000 in
theorem but_any (b off c : Nat) (l : List En) (i : Nat) (w : World) (hl : l.length ≤ 1000) (hi : i < l.length) (hc : l.length ≤ c) (hcm : c ≤ 9223372036854775807) (hr : RowOf En.cells 4 w w.heap.size (some ⟨b, off, none⟩) l) :
    Calls Try.prog 43 #[.slice (some ⟨b, off, none⟩) l.length c, .int .i64 (i : Int)] w fun e w' => ∃ v, e = .returned v ∧ Own En.cells 4 92 w' w.heap.size v (l.eraseIdx i) ∧ Below w.heap.size w w' := by
  obtain ⟨i92, hi92, hz0, hz1, hz2⟩ := info_parts Try.info92
  have hkeep : ∀ (A : Addr) (l1 : List En), RowOf En.cells 4 w w.heap.size (some A) l1 → ∀ w1 : World, w.grownBy w1 (Value.slice none 0 0).ownBlock → RowOf En.cells 4 w1 w.heap.size (some A) l1 := fun A l1 h w1 hg => h.keep fun p hp => World.cell?_of_block (w := w) (hg.block p.block hp (by simp [Value.ownBlock]))
  have HR := Lib.hid hr
  have HL := Lib.hid hl
  have HO := Lib.hid (Own.nil_ (cs := En.cells) (sz := 4) (w := w) (B := w.heap.size) (e := 92))
  have hlt : ((l.take i).length = i) := by rw [List.length_take]; omega
  have HLT := Lib.hid hlt
  have hld : (l.drop (i + 1)).length = l.length - (i + 1) := List.length_drop
  have HLD := Lib.hid hld
  have hdr := hr.dropped (i + 1)
  clear hlt hld
  by_cases hce : c = i + 1
  · have hnil : l.drop (i + 1) = [] := List.drop_eq_nil_of_le (by omega)
    have HRD := Lib.hid (hkeep ⟨b, off, none⟩ (l.drop (i + 1)) (by rw [hnil]; exact RowOf.nil_))
    have hc0 : c - (i + 1) = 0 := by omega
    clear hr hdr hkeep hnil hce
    go_enter Try.func43, Try.ntmps43
    go_wp2_with (first | (at_builtin; refine wpList_append_row (cs := En.cells) rfl _ _ 38 rfl 92 i92 _ 56 Try.underlying38 hi92 hz0 hz1 hz2 rfl (by decide) En.len En.one w1 w.heap.size w.heap.size v1 ([] ++ l.take i) (l.drop (i + 1)) ⟨b, off, none⟩ (l.length - (i + 1)) 0 (by rfl) (by rfl) HLD.out.symm HO1.out (HRD.out w1 HG1.out) (by rw [List.nil_append, HLT.out, HLD.out]; have := HL.out; unfold maxLen; omega) (by rw [List.nil_append, HLT.out, HLD.out]; have := HL.out; omega) (by have := HG1.out.size; omega) ?_; intro v2 w2 hown2 hg2 hat2; have HO2 := Lib.hid hown2; have HG2 := Lib.hid hg2; clear hown2 hg2 hat2) | (at_builtin; go_must (refine wpList_append_row (cs := En.cells) rfl _ _ 38 rfl 92 i92 _ 56 Try.underlying38 hi92 hz0 hz1 hz2 rfl (by decide) En.len En.one w w.heap.size w.heap.size (.slice none 0 0) [] (l.take i) ⟨b, off, none⟩ i c (by rfl) (by rfl) HLT.out.symm HO.out (HR.out.take i) (by rw [HLT.out]; have := HL.out; unfold maxLen; simp; omega) (by rw [HLT.out]; have := HL.out; simp; omega) (Nat.le_refl _) ?_; intro v1 w1 hown1 hg1 hat1; have HO1 := Lib.hid hown1; have HG1 := Lib.hid hg1; clear hown1 hg1 hat1)))
    go_wp2_with fail
    go_ret
    have ho := HO2.out
    rw [List.nil_append, ← erase_split] at ho
    have hb := (Below.refl w.heap.size w).grown HG1.out (Nat.le_refl _) (fun k hk => by simp [Value.ownBlock] at hk)
    exact ⟨_, rfl, ho, hb.grown HG2.out (by have := HG1.out.size; omega) (fun k hk => (Own.lt HO1.out k hk).1)⟩
  · have HRD := Lib.hid (hkeep ⟨b, off + (i + 1) * 4, none⟩ (l.drop (i + 1)) hdr)
    have hcn : ¬ c - (i + 1) = 0 := by omega
    clear hr hdr hkeep
    go_enter Try.func43, Try.ntmps43
    go_wp2_with (first | (at_builtin; refine wpList_append_row (cs := En.cells) rfl _ _ 38 rfl 92 i92 _ 56 Try.underlying38 hi92 hz0 hz1 hz2 rfl (by decide) En.len En.one w1 w.heap.size w.heap.size v1 ([] ++ l.take i) (l.drop (i + 1)) ⟨b, off + (i + 1) * 4, none⟩ (l.length - (i + 1)) (c - (i + 1)) (by rfl) (by rfl) HLD.out.symm HO1.out (HRD.out w1 HG1.out) (by rw [List.nil_append, HLT.out, HLD.out]; have := HL.out; unfold maxLen; omega) (by rw [List.nil_append, HLT.out, HLD.out]; have := HL.out; omega) (by have := HG1.out.size; omega) ?_; intro v2 w2 hown2 hg2 hat2; have HO2 := Lib.hid hown2; have HG2 := Lib.hid hg2; clear hown2 hg2 hat2) | (at_builtin; go_must (refine wpList_append_row (cs := En.cells) rfl _ _ 38 rfl 92 i92 _ 56 Try.underlying38 hi92 hz0 hz1 hz2 rfl (by decide) En.len En.one w w.heap.size w.heap.size (.slice none 0 0) [] (l.take i) ⟨b, off, none⟩ i c (by rfl) (by rfl) HLT.out.symm HO.out (HR.out.take i) (by rw [HLT.out]; have := HL.out; unfold maxLen; simp; omega) (by rw [HLT.out]; have := HL.out; simp; omega) (Nat.le_refl _) ?_; intro v1 w1 hown1 hg1 hat1; have HO1 := Lib.hid hown1; have HG1 := Lib.hid hg1; clear hown1 hg1 hat1)))
    go_wp2_with fail
    go_ret
    have ho := HO2.out
    rw [List.nil_append, ← erase_split] at ho
    have hb := (Below.refl w.heap.size w).grown HG1.out (Nat.le_refl _) (fun k hk => by simp [Value.ownBlock] at hk)
    exact ⟨_, rfl, ho, hb.grown HG2.out (by have := HG1.out.size; omega) (fun k hk => (Own.lt HO1.out k hk).1)⟩
end

section
open Go.RowKit Go.Maps Go.Sort
set_option linter.unusedVariables false
set_option linter.unusedSimpArgs false
/-- A key that is being made. -/
structure RFl where
  who : Int
  wait : List Int
  wa : Option Addr
  wn : Nat
  wc : Nat
def RFl.ws (f : RFl) : Value := .slice f.wa f.wn f.wc
structure RS where
  most : Nat
  kept : List (ByteArray × Int)
  making : List (ByteArray × RFl)
def enK (p : ByteArray × Int) : En := ⟨p.1, p.2, 0, none, 0, 0⟩
def enM (p : ByteArray × RFl) : En := ⟨p.1, 0, p.2.who, p.2.wa, p.2.wn, p.2.wc⟩
def rA (f : RFl) : Int × List Int := (f.who, f.wait)
def RS.abs (S : RS) : AS Int := ⟨S.most, S.kept, S.making.map (fun p => (p.1, rA p.2))⟩
def wsFoot (M : List (ByteArray × RFl)) : List Nat := M.flatMap (fun p => own p.2.ws)
def rfoot (S : RS) (r : Nat) (kv mv : Value) : List Nat := r :: (own kv ++ (own mv ++ wsFoot S.making))
structure RefAt (w : World) (r : Nat) (S : RS) (kv mv : Value) : Prop where
  obj : w.heap[r]? = some (.cells #[.int .i64 (S.most : Int), kv, mv] 40 (0, 0))
  kept : Own En.cells 4 92 w 0 kv (S.kept.map enK)
  making : Own En.cells 4 92 w 0 mv (S.making.map enM)
  ws : ∀ p ∈ S.making, OffRow 3 w p.2.ws (p.2.wait.map (Value.int .i64))
  nodup : (rfoot S r kv mv).Nodup
  ukept : (keys S.kept).Nodup
  umaking : (keys S.making).Nodup
  apart : ∀ k ∈ keys S.kept, k ∉ keys S.making
section
variable {w w' : World} {r : Nat} {S : RS} {kv mv : Value}
theorem Own.keep2 {α : Type} {cs : α → List Value} {sz : Nat} {e : TypeId} {B : Nat} {v : Value} {l : List α} (h : Own cs sz e w B v l) (hk : ∀ k, v.ownBlock = some k → w'.heap[k]? = w.heap[k]?) : Own cs sz e w' B v l := by
  refine ⟨h.1, ?_⟩
  rcases h.2 with hn | ⟨g, cap, cur, rfl, hB, hgg, rest⟩
  · exact .inl hn
  · exact .inr ⟨g, cap, cur, rfl, hB, by rw [hk g rfl]; exact hgg, rest⟩
theorem Own.form {v : Value} {l : List En} {B : Nat} (h : Own En.cells 4 92 w B v l) (hn : l ≠ []) : ∃ g cap, v = .slice (some ⟨g, 0, none⟩) l.length cap ∧ l.length ≤ cap ∧ cap ≤ 9223372036854775807 ∧ g < w.heap.size ∧ RowOf En.cells 4 w w.heap.size (some ⟨g, 0, none⟩) l := by
  obtain ⟨A, c, hv, hrow⟩ := Own.row En.len h
  rcases h.2 with ⟨h1, h2⟩ | ⟨g, cap, cur, h1, h2, h3, h4, h5, h6, h7⟩
  · exact absurd (List.eq_nil_of_length_eq_zero h2) hn
  · rw [h1] at hv
    simp only [Value.slice.injEq] at hv
    obtain ⟨rfl, _, rfl⟩ := hv
    exact ⟨g, cap, h1, by omega, by unfold maxLen at h5; omega, (Array.getElem?_eq_some_iff.1 h3).1, hrow⟩
theorem Own.shape {v : Value} {l : List En} {B : Nat} (h : Own En.cells 4 92 w B v l) : ∃ A c, v = .slice A l.length c := by
  obtain ⟨A, c, hv, _⟩ := Own.row En.len h
  exact ⟨A, c, hv⟩
theorem RefAt.lt (h : RefAt w r S kv mv) : ∀ b ∈ rfoot S r kv mv, b < w.heap.size := by
  intro b hb
  unfold rfoot wsFoot at hb
  simp only [List.mem_cons, List.mem_append, List.mem_flatMap] at hb
  rcases hb with rfl | hb | hb | ⟨p, hp, hb⟩
  · exact (Array.getElem?_eq_some_iff.1 h.obj).1
  · exact (h.kept.lt b (mem_own.1 hb)).2
  · exact (h.making.lt b (mem_own.1 hb)).2
  · exact (h.ws p hp).lt b (mem_own.1 hb)
theorem rfoot_r : r ∈ rfoot S r kv mv := by simp [rfoot]
theorem rfoot_kv {k : Nat} (h : kv.ownBlock = some k) : k ∈ rfoot S r kv mv := by unfold rfoot; simp [mem_own.2 h]
theorem rfoot_mv {k : Nat} (h : mv.ownBlock = some k) : k ∈ rfoot S r kv mv := by unfold rfoot; simp [mem_own.2 h]
theorem rfoot_ws {p : ByteArray × RFl} (hp : p ∈ S.making) {k : Nat} (h : p.2.ws.ownBlock = some k) : k ∈ rfoot S r kv mv := by
  unfold rfoot wsFoot
  simp only [List.mem_cons, List.mem_append, List.mem_flatMap]
  exact .inr (.inr (.inr ⟨p, hp, mem_own.2 h⟩))
theorem RefAt.keep (h : RefAt w r S kv mv) (hk : ∀ b ∈ rfoot S r kv mv, w'.heap[b]? = w.heap[b]?) : RefAt w' r S kv mv :=
  ⟨by rw [hk _ rfoot_r]; exact h.obj, h.kept.keep2 fun q hq => hk q (rfoot_kv hq), h.making.keep2 fun q hq => hk q (rfoot_mv hq), fun p hp => (h.ws p hp).keep fun q hq => hk q (rfoot_ws hp hq), h.nodup, h.ukept, h.umaking, h.apart⟩
/-- Which blocks are which. -/
theorem RefAt.sep (h : RefAt w r S kv mv) : kv.ownBlock ≠ some r ∧ mv.ownBlock ≠ some r ∧ (∀ q, kv.ownBlock = some q → mv.ownBlock ≠ some q) ∧ (∀ p ∈ S.making, ∀ q, p.2.ws.ownBlock = some q → q ≠ r ∧ kv.ownBlock ≠ some q ∧ mv.ownBlock ≠ some q) := by
  have hn := h.nodup
  unfold rfoot at hn
  simp only [List.nodup_cons, List.mem_append, not_or] at hn
  obtain ⟨⟨n1, n2, n3⟩, n4⟩ := hn
  rw [List.nodup_append] at n4
  obtain ⟨n5, n6, n7⟩ := n4
  rw [List.nodup_append] at n6
  obtain ⟨n8, n9, n10⟩ := n6
  refine ⟨fun e => n1 (mem_own.2 e), fun e => n2 (mem_own.2 e), fun q hq e => n7 q (mem_own.2 hq) q (List.mem_append_left _ (mem_own.2 e)) rfl, fun p hp q hq => ?_⟩
  have hm : q ∈ wsFoot S.making := List.mem_flatMap.2 ⟨p, hp, mem_own.2 hq⟩
  exact ⟨fun e => n3 (e ▸ hm), fun e => n7 q (mem_own.2 e) q (List.mem_append_right _ hm) rfl, fun e => n10 q (mem_own.2 e) q hm rfl⟩
/-- Another row: in the old block, in a new one, or in none. -/
def NewOr (w : World) (v v' : Value) : Prop := NewOwn w v v' ∨ v'.ownBlock = none
theorem NewOr.list {v v' : Value} (h : NewOr w v v') : own v' = own v ∨ own v' = [] ∨ ∃ g, own v' = [g] ∧ w.heap.size ≤ g := by
  rcases h with h | h
  · rcases h.list with h | h
    · exact .inl h
    · exact .inr (.inr h)
  · exact .inr (.inl (by unfold own; rw [h]; rfl))
/-- The kept row is another one. -/
theorem RefAt.setKept (h : RefAt w r S kv mv) {K' : List (ByteArray × Int)} {kv' : Value} (hu : NewOr w kv kv') (hK : (keys K').Nodup) (ha : ∀ k ∈ keys K', k ∉ keys S.making)
    (ho : w'.heap[r]? = some (.cells #[.int .i64 (S.most : Int), kv', mv] 40 (0, 0))) (hr : Own En.cells 4 92 w' 0 kv' (K'.map enK))
    (hk : ∀ b ∈ rfoot S r kv mv, b ≠ r → kv.ownBlock ≠ some b → w'.heap[b]? = w.heap[b]?) :
    RefAt w' r { S with kept := K' } kv' mv ∧ ∀ b ∈ rfoot { S with kept := K' } r kv' mv, b ∈ rfoot S r kv mv ∨ w.heap.size ≤ b := by
  obtain ⟨s1, s2, s3, s4⟩ := h.sep
  have hl := h.lt
  have hn := h.nodup
  refine ⟨⟨ho, hr, h.making.keep2 fun q hq => hk q (rfoot_mv hq) (fun e => s2 (e ▸ hq)) (fun e => s3 q e hq), fun p hp => (h.ws p hp).keep fun q hq => hk q (rfoot_ws hp hq) (s4 p hp q hq).1 (s4 p hp q hq).2.1, ?_, hK, h.umaking, ha⟩, ?_⟩
  · unfold rfoot at hn hl ⊢
    refine nodup_swap (A := [r]) (U := own kv) hn ?_
    rcases hu.list with e | e | ⟨g, e, hg⟩
    · exact .inl e
    · exact .inr (.inl e)
    · refine .inr (.inr ⟨g, e, fun hm => ?_, fun hm => ?_⟩)
      · simp at hm; have := hl r (by simp); omega
      · have := hl g (List.mem_cons_of_mem _ (List.mem_append_right _ hm)); omega
  · intro b hb
    unfold rfoot at hb ⊢
    simp only [List.mem_cons, List.mem_append] at hb ⊢
    rcases hb with e | e | e | e
    · exact .inl (.inl e)
    · rcases hu.list with e2 | e2 | ⟨g, e2, hg⟩
      · rw [e2] at e; exact .inl (.inr (.inl e))
      · rw [e2] at e; cases e
      · rw [e2] at e; simp at e; subst e; exact .inr hg
    · exact .inl (.inr (.inr (.inl e)))
    · exact .inl (.inr (.inr (.inr e)))
/-- The row of what is being made is another one; nobody else waits. -/
theorem RefAt.setMaking (h : RefAt w r S kv mv) {M' : List (ByteArray × RFl)} {mv' : Value} (hu : NewOr w mv mv') (hK : (keys M').Nodup) (ha : ∀ k ∈ keys S.kept, k ∉ keys M')
    (hs : List.Sublist (wsFoot M') (wsFoot S.making)) (hw : ∀ p ∈ M', p ∈ S.making ∨ (p.2.ws = .slice none 0 0 ∧ p.2.wait = []))
    (ho : w'.heap[r]? = some (.cells #[.int .i64 (S.most : Int), kv, mv'] 40 (0, 0))) (hr : Own En.cells 4 92 w' 0 mv' (M'.map enM))
    (hk : ∀ b ∈ rfoot S r kv mv, b ≠ r → mv.ownBlock ≠ some b → w'.heap[b]? = w.heap[b]?) :
    RefAt w' r { S with making := M' } kv mv' ∧ ∀ b ∈ rfoot { S with making := M' } r kv mv', b ∈ rfoot S r kv mv ∨ w.heap.size ≤ b := by
  obtain ⟨s1, s2, s3, s4⟩ := h.sep
  have hl := h.lt
  have hn := h.nodup
  refine ⟨⟨ho, h.kept.keep2 fun q hq => hk q (rfoot_kv hq) (fun e => s1 (e ▸ hq)) (s3 q hq), hr, fun p hp => ?_, ?_, h.ukept, hK, ha⟩, ?_⟩
  · rcases hw p hp with hp2 | ⟨e1, e2⟩
    · exact (h.ws p hp2).keep fun q hq => hk q (rfoot_ws hp2 hq) (s4 p hp2 q hq).1 (s4 p hp2 q hq).2.2
    · rw [e1, e2]; exact OffRow.nil_
  · unfold rfoot at hn hl ⊢
    have hn2 : ((r :: own kv) ++ (own mv ++ wsFoot M')).Nodup := by
      refine List.Nodup.sublist ?_ (show ((r :: own kv) ++ (own mv ++ wsFoot S.making)).Nodup by simpa using hn)
      exact List.Sublist.append (List.Sublist.refl _) (List.Sublist.append (List.Sublist.refl _) hs)
    have := nodup_swap (A := r :: own kv) (U := own mv) (U' := own mv') hn2 (by
      rcases hu.list with e | e | ⟨g, e, hg⟩
      · exact .inl e
      · exact .inr (.inl e)
      · refine .inr (.inr ⟨g, e, fun hm => ?_, fun hm => ?_⟩)
        · have := hl g (by rcases List.mem_cons.1 hm with h1 | h1; exact List.mem_cons.2 (.inl h1); exact List.mem_cons_of_mem _ (List.mem_append_left _ h1)); omega
        · have := hl g (List.mem_cons_of_mem _ (List.mem_append_right _ (List.mem_append_right _ (hs.subset hm)))); omega)
    simpa using this
  · intro b hb
    unfold rfoot at hb ⊢
    simp only [List.mem_cons, List.mem_append] at hb ⊢
    rcases hb with e | e | e | e
    · exact .inl (.inl e)
    · exact .inl (.inr (.inl e))
    · rcases hu.list with e2 | e2 | ⟨g, e2, hg⟩
      · rw [e2] at e; exact .inl (.inr (.inr (.inl e)))
      · rw [e2] at e; cases e
      · rw [e2] at e; simp at e; subst e; exact .inr hg
    · exact .inl (.inr (.inr (.inr (hs.subset e))))
end
end

section
open Go.RowKit Go.Maps Go.Sort
set_option linter.unusedVariables false
set_option linter.unusedSimpArgs false
section
variable {P : Program} {w : World}
/-- append of one element onto a row that begins anywhere, within a region that draws its order. -/
theorem step_append_off {ops : Array Oper} {o : Oper} {a : Act} {K : Act → World → Prop} {Q : Exit → Act → World → Prop} {E : Prop} (hgd : o.guard = none) (s x : Operand) (t : TypeId)
    (ho : o.op = .call { callee := .builtin .append, args := #[s, x], argTypes := #[t, t] })
    (e : TypeId) (i : TypeInfo) (z : Value) (bytes : Nat) (ht : P.underlying t = some (.slice e)) (hi : P.info? e = some i) (hz : i.zero = some z)
    (hsize : i.size = 1) (hby : i.bytes = bytes) (hzs : z.cells.size = 1) (v : Value) (l : List Value) (hs : a.eval s = v) (hown : OffRow e w v l)
    (ad : Addr) (u : Value) (hx : a.eval x = .slice (some ad) 1 1) (hu : w.cell? (ad.add 0) = some u) (h1 : u.oneCell' = true) (h63 : l.length + 1 ≤ maxLen) (hbytes : (l.length + 1) * bytes ≤ 140737488355328)
    (h : ∀ g off cap w', OffRow e w' (.slice (some ⟨g, off, none⟩) (l.length + 1) cap) (l ++ [u]) → w.grownBy w' v.ownBlock → (v.ownBlock = some g ∨ g = w.heap.size) → K (a.put o.dst (.slice (some ⟨g, off, none⟩) (l.length + 1) cap)) w') :
    if Region.wanted o (yielded ops a.tmps) = true then Oper.wp P o a w K Q else E := by
  have hw : Region.wanted o (yielded ops a.tmps) = true := by simp [Region.wanted, hgd]
  rw [if_pos hw]
  obtain ⟨g, off, cap, w', hr, h2, h3, h4⟩ := run_append_off (P := P) w t o.type e i z bytes ht hi hz hsize hby hzs v l hown ad u hu h1 h63 hbytes
  unfold Oper.wp execOp
  simp only [ho, resolve, invoke, builtin, Sem.run_bind, Sem.run_pure, Result.andThen_ok, List.map_toArray, List.map_cons, List.map_nil, hs, hx, hr]
  exact h g off cap w' h2 h3 h4
end
theorem flat_set (l : List En) (i : Nat) (e : En) (he : l[i]? = some e) (wa : Option Addr) (wn wc : Nat) : (l.flatMap En.cells).set (i * 4 + 3) (.slice wa wn wc) = (l.set i { e with wa := wa, wn := wn, wc := wc }).flatMap En.cells := by
  induction l generalizing i with
  | nil => simp at he
  | cons y l ih =>
    cases i with
    | zero =>
      simp at he
      subst he
      simp [En.cells]
    | succ i =>
      simp at he
      have := ih i he
      rw [List.flatMap_cons, List.set_append, if_neg (by rw [En.len]; omega), En.len, show (i + 1) * 4 + 3 - 4 = i * 4 + 3 by omega, this]
      simp [List.flatMap_cons]
theorem Own.setWs {w w' : World} {g n cap i : Nat} {l : List En} {e : En} (h : Own En.cells 4 92 w 0 (.slice (some ⟨g, 0, none⟩) n cap) l) (he : l[i]? = some e) (wa : Option Addr) (wn wc : Nat)
    (hk : ∀ cur, w.heap[g]? = some (.cells cur 92 (0, 0)) → w'.heap[g]? = some (.cells (cur.setIfInBounds (i * 4 + 3) (.slice wa wn wc)) 92 (0, 0))) :
    Own En.cells 4 92 w' 0 (.slice (some ⟨g, 0, none⟩) n cap) (l.set i { e with wa := wa, wn := wn, wc := wc }) := by
  refine ⟨by rw [flat_len En.len], ?_⟩
  rcases h.2 with ⟨h1, _⟩ | ⟨g', cap', cur, h1, h2, h3, h4, h5, h6, h7⟩
  · cases h1
  · simp only [Value.slice.injEq, Option.some.injEq, Addr.mk.injEq] at h1
    obtain ⟨⟨rfl, _, _⟩, rfl, rfl⟩ := h1
    refine .inr ⟨g, cap, _, by rw [List.length_set], h2, hk cur h3, by rw [List.length_set]; exact h4, h5, by simpa using h6, ?_⟩
    rw [List.length_set]
    have e1 : ((cur.setIfInBounds (i * 4 + 3) (.slice wa wn wc)).toList.take (l.length * 4)) = (cur.toList.take (l.length * 4)).set (i * 4 + 3) (.slice wa wn wc) := by
      rw [Array.toList_setIfInBounds, List.take_set]
    rw [e1, h7]
    exact flat_set l i e he wa wn wc
theorem setK_idx {X : Type} {l : List (ByteArray × X)} {i : Nat} {k : ByteArray} {x y : X} (hn : (keys l).Nodup) (h : l[i]? = some (k, x)) : setK l k y = l.set i (k, y) := by
  induction l generalizing i with
  | nil => simp at h
  | cons p l ih =>
    simp only [keys, List.map_cons, List.nodup_cons] at hn
    cases i with
    | zero =>
      simp at h
      subst h
      have e : setK ((k, x) :: l) k y = (k, y) :: setK l k y := by unfold setK; simp
      rw [e, setK_none y hn.1]; rfl
    | succ i =>
      simp at h
      have hne : ¬ p.1 = k := fun e => hn.1 (e ▸ List.mem_map_of_mem (f := Prod.fst) (List.mem_of_getElem? h))
      have e : setK (p :: l) k y = p :: setK l k y := by unfold setK; simp [hne]
      rw [e, ih hn.2 h]; rfl
end

section
open Go.RowKit Go.Maps Go.Sort
set_option linter.unusedVariables false
set_option linter.unusedSimpArgs false
theorem idx_of {X : Type} {l : List (ByteArray × X)} {i : Nat} {k : ByteArray} {y : X} (hn : (keys l).Nodup) (h : l[i]? = some (k, y)) : getK l k = some y ∧ l.eraseIdx i = dropK l k := by
  induction l generalizing i with
  | nil => simp at h
  | cons p l ih =>
    simp only [keys, List.map_cons, List.nodup_cons] at hn
    cases i with
    | zero =>
      simp at h
      subst h
      refine ⟨by rw [getK_cons, if_pos rfl], ?_⟩
      have e : dropK ((k, y) :: l) k = dropK l k := by unfold dropK; rw [List.filter_cons_of_neg (by simp)]
      rw [e, dropK_none hn.1]; rfl
    | succ i =>
      simp at h
      have hne : ¬ p.1 = k := fun e => hn.1 (e ▸ List.mem_map_of_mem (f := Prod.fst) (List.mem_of_getElem? h))
      obtain ⟨h1, h2⟩ := ih hn.2 h
      refine ⟨by rw [getK_cons, if_neg hne]; exact h1, ?_⟩
      have e : dropK (p :: l) k = p :: dropK l k := by unfold dropK; rw [List.filter_cons_of_pos (by simp [hne])]
      rw [e, ← h2]; rfl
theorem foundK {l : List (ByteArray × Int)} {k : ByteArray} {e : Ending} (hn : (keys l).Nodup) (h : Found (l.map enK) k e) :
    (∃ (i : Nat) (x : Int), l[i]? = some (k, x) ∧ getK l k = some x ∧ l.eraseIdx i = dropK l k ∧ e = .returned (.int .i64 (i : Int))) ∨ (getK l k = none ∧ e = .returned (.int .i64 (-1))) := by
  rcases h with ⟨i, x, hx, hk, rfl⟩ | ⟨hno, rfl⟩
  · rw [List.getElem?_map] at hx
    cases hl : l[i]? with
    | none => rw [hl] at hx; cases hx
    | some p =>
      rw [hl] at hx
      simp at hx
      obtain ⟨pk, px⟩ := p
      have e : pk = k := by rw [← hk, ← hx]; rfl
      subst e
      obtain ⟨h1, h2⟩ := idx_of hn hl
      exact .inl ⟨i, px, hl, h1, h2, rfl⟩
  · refine .inr ⟨getK_none.2 fun hm => ?_, rfl⟩
    obtain ⟨p, hp, e⟩ := List.mem_map.1 hm
    exact hno (enK p) (List.mem_map_of_mem hp) e
theorem foundM {l : List (ByteArray × RFl)} {k : ByteArray} {e : Ending} (hn : (keys l).Nodup) (h : Found (l.map enM) k e) :
    (∃ (i : Nat) (x : RFl), l[i]? = some (k, x) ∧ getK l k = some x ∧ l.eraseIdx i = dropK l k ∧ e = .returned (.int .i64 (i : Int))) ∨ (getK l k = none ∧ e = .returned (.int .i64 (-1))) := by
  rcases h with ⟨i, x, hx, hk, rfl⟩ | ⟨hno, rfl⟩
  · rw [List.getElem?_map] at hx
    cases hl : l[i]? with
    | none => rw [hl] at hx; cases hx
    | some p =>
      rw [hl] at hx
      simp at hx
      obtain ⟨pk, px⟩ := p
      have e : pk = k := by rw [← hk, ← hx]; rfl
      subst e
      obtain ⟨h1, h2⟩ := idx_of hn hl
      exact .inl ⟨i, px, hl, h1, h2, rfl⟩
  · refine .inr ⟨getK_none.2 fun hm => ?_, rfl⟩
    obtain ⟨p, hp, e⟩ := List.mem_map.1 hm
    exact hno (enM p) (List.mem_map_of_mem hp) e
/-- The document's memo's cells. -/
theorem rcells {w : World} {r : Nat} {most : Int} {kv mv : Value} (h : w.heap[r]? = some (.cells #[.int .i64 most, kv, mv] 40 (0, 0))) :
    w.cell? ⟨r, 0, none⟩ = some (.int .i64 most) ∧ w.cell? ⟨r, 1, none⟩ = some kv ∧ w.cell? ⟨r, 2, none⟩ = some mv ∧ ∀ j, w.frozen? ⟨r, j, none⟩ = false :=
  ⟨by rw [cell_of_row _ _ _ _ _ _ h]; rfl, by rw [cell_of_row _ _ _ _ _ _ h]; rfl, by rw [cell_of_row _ _ _ _ _ _ h]; rfl, fun j => by simp [World.frozen?, h]⟩
/-- find on a row of the document's. -/
theorem find_own {w : World} {v : Value} {l : List En} (h : Own En.cells 4 92 w 0 v l) (key : ByteArray) (hl : l.length ≤ 1000) : Calls Try.prog 41 #[v, .string key] w fun e w' => Found l key e ∧ ∃ q, w' = w.drewN q := by
  obtain ⟨A, c, rfl, hrow⟩ := Own.row En.len h
  exact find_any A c l key _ w (by omega) hrow
theorem nodup_idx {X : Type} {l : List X} (hn : l.Nodup) {i j : Nat} {x : X} (hi : l[i]? = some x) (hj : l[j]? = some x) : i = j := by
  obtain ⟨hi1, hi2⟩ := List.getElem?_eq_some_iff.1 hi
  obtain ⟨hj1, hj2⟩ := List.getElem?_eq_some_iff.1 hj
  have hp := List.pairwise_iff_getElem.1 hn
  rcases Nat.lt_trichotomy i j with h | h | h
  · exact absurd (hi2.trans hj2.symm) (hp i j hi1 hj1 h)
  · exact h
  · exact absurd (hj2.trans hi2.symm) (hp j i hj1 hi1 h)
theorem key_at {X : Type} {l : List (ByteArray × X)} {i : Nat} {k : ByteArray} {x : X} (h : l[i]? = some (k, x)) : (keys l)[i]? = some k := by
  unfold keys; rw [List.getElem?_map, h]; rfl
theorem findK_none {w : World} {v : Value} {l : List (ByteArray × Int)} {k : ByteArray} (h : Own En.cells 4 92 w 0 v (l.map enK)) (hl : l.length ≤ 1000) (hn : (keys l).Nodup) (hk : getK l k = none) :
    Calls Try.prog 41 #[v, .string k] w fun e w' => e = .returned (.int .i64 (-1)) ∧ ∃ q, w' = w.drewN q := by
  refine (find_own h k (by rw [List.length_map]; exact hl)).mono ?_
  rintro e w1 ⟨hfd, hq⟩
  rcases foundK hn hfd with ⟨i, x, _, hg, _, _⟩ | ⟨_, he⟩
  · rw [hk] at hg; cases hg
  · exact ⟨he, hq⟩
theorem findK_some {w : World} {v : Value} {l : List (ByteArray × Int)} {k : ByteArray} {x : Int} (h : Own En.cells 4 92 w 0 v (l.map enK)) (hl : l.length ≤ 1000) (hn : (keys l).Nodup) (hk : getK l k = some x) :
    ∃ i : Nat, l[i]? = some (k, x) ∧ l.eraseIdx i = dropK l k ∧ Calls Try.prog 41 #[v, .string k] w fun e w' => e = .returned (.int .i64 (i : Int)) ∧ ∃ q, w' = w.drewN q := by
  obtain ⟨i, hi⟩ := List.getElem?_of_mem (getK_mem hk)
  obtain ⟨_, h2⟩ := idx_of hn hi
  refine ⟨i, hi, h2, (find_own h k (by rw [List.length_map]; exact hl)).mono ?_⟩
  rintro e w1 ⟨hfd, hq⟩
  rcases foundK hn hfd with ⟨j, y, hj, _, _, he⟩ | ⟨hno, he⟩
  · have : j = i := nodup_idx hn (key_at hj) (key_at hi)
    subst this
    exact ⟨he, hq⟩
  · rw [hk] at hno; cases hno
theorem findM_none {w : World} {v : Value} {l : List (ByteArray × RFl)} {k : ByteArray} (h : Own En.cells 4 92 w 0 v (l.map enM)) (hl : l.length ≤ 1000) (hn : (keys l).Nodup) (hk : getK l k = none) :
    Calls Try.prog 41 #[v, .string k] w fun e w' => e = .returned (.int .i64 (-1)) ∧ ∃ q, w' = w.drewN q := by
  refine (find_own h k (by rw [List.length_map]; exact hl)).mono ?_
  rintro e w1 ⟨hfd, hq⟩
  rcases foundM hn hfd with ⟨i, x, _, hg, _, _⟩ | ⟨_, he⟩
  · rw [hk] at hg; cases hg
  · exact ⟨he, hq⟩
theorem findM_some {w : World} {v : Value} {l : List (ByteArray × RFl)} {k : ByteArray} {x : RFl} (h : Own En.cells 4 92 w 0 v (l.map enM)) (hl : l.length ≤ 1000) (hn : (keys l).Nodup) (hk : getK l k = some x) :
    ∃ i : Nat, l[i]? = some (k, x) ∧ l.eraseIdx i = dropK l k ∧ Calls Try.prog 41 #[v, .string k] w fun e w' => e = .returned (.int .i64 (i : Int)) ∧ ∃ q, w' = w.drewN q := by
  obtain ⟨i, hi⟩ := List.getElem?_of_mem (getK_mem hk)
  obtain ⟨_, h2⟩ := idx_of hn hi
  refine ⟨i, hi, h2, (find_own h k (by rw [List.length_map]; exact hl)).mono ?_⟩
  rintro e w1 ⟨hfd, hq⟩
  rcases foundM hn hfd with ⟨j, y, hj, _, _, he⟩ | ⟨hno, he⟩
  · have : j = i := nodup_idx hn (key_at hj) (key_at hi)
    subst this
    exact ⟨he, hq⟩
  · rw [hk] at hno; cases hno
def RefSteps (w : World) (r : Nat) (S : RS) (kv mv : Value) (w' : World) (A : AS Int) : Prop :=
  ∃ S' kv' mv', RefAt w' r S' kv' mv' ∧ S'.abs = A ∧ (∀ b ∈ rfoot S' r kv' mv', b ∈ rfoot S r kv mv ∨ w.heap.size ≤ b) ∧ Only (rfoot S r kv mv) w w'
section
variable {w w' : World} {r : Nat} {S : RS} {kv mv : Value} {k : ByteArray} {who : Int}
theorem rabs_making (S : RS) (k : ByteArray) : getK S.abs.making k = (getK S.making k).map rA := getK_map rA S.making k
theorem RefSteps.same (h : RefAt w r S kv mv) {A : AS Int} (hA : S.abs = A) (e1 : w'.heap = w.heap) (e2 : w'.os = w.os) (e3 : w'.tape = w.tape) (e4 : w'.output = w.output) : RefSteps w r S kv mv w' A :=
  ⟨S, kv, mv, h.keep (fun b _ => by rw [e1]), hA, fun b hb => .inl hb, ⟨e2, e3, e4, by rw [e1]; exact Nat.le_refl _, fun b _ _ => by rw [e1]⟩⟩
set_option maxRecDepth 100000 in
set_option maxHeartbeats 800000 in
theorem refAsk_make (h : RefAt w r S kv mv) (hk : getK S.kept k = none) (hf : getK S.making k = none) (hb1 : S.kept.length ≤ 1000) (hb2 : S.making.length ≤ 1000) :
    Calls Try.prog 22 #[.pointer (some ⟨r, 0, none⟩), .string k, .int .i64 who] w fun e w' => e = .returned (.tuple #[.int .i64 0, .int .i64 2, .int .i64 0]) ∧
      RefSteps w r S kv mv w' { S.abs with making := S.abs.making ++ [(k, (who, []))] } := by
  obtain ⟨i92, hi92, hz0, hz1, hz2⟩ := info_parts Try.info92
  obtain ⟨r0, r1, r2, rz⟩ := rcells h.obj
  have F1 := Lib.hid (findK_none h.kept hb1 h.ukept hk)
  have F2 := Lib.hid (fun q => findM_none (w := w.drewN q) h.making hb2 h.umaking hf)
  have H := Lib.hid h
  have HK := Lib.hid hk
  have HF := Lib.hid hf
  have hml : (S.making.map enM).length + 1 ≤ 1001 := by rw [List.length_map]; omega
  have HML := Lib.hid hml
  have hrlt := h.lt r rfoot_r
  have hsep := h.sep.2.1
  have HSEP := Lib.hid hsep
  clear hk hf hml hsep
  clear h
  go_enter Try.func22, Try.ntmps22
  go_wp2_with (first | (go_at_call 41; refine (F2.out q1).mono ?_; rintro e w1 ⟨rfl, q2, rfl⟩) | (go_at_call 41; refine F1.out.mono ?_; rintro e w1 ⟨rfl, q1, rfl⟩) | (at_builtin; go_must (refine wpList_append_rec (cs := En.cells) rfl _ _ 38 rfl 92 i92 _ 56 Try.underlying38 hi92 hz0 hz1 hz2 rfl (by decide) En.len En.one (w.drewN (q1 + q2)) 0 w.heap.size mv (S.making.map enM) ⟨k, 0, who, none, 0, 0⟩ _ rfl (by rfl) (by rfl) rfl (Own.keep2 H.out.making (fun _ _ => rfl)) (by have := HML.out; unfold maxLen; omega) (by have := HML.out; omega) (Nat.zero_le _) ?_; intro g cap w4 ho4 hg4 hb4 hl4; have hm4 : w4.heap[r]? = some (.cells #[.int .i64 (S.most : Int), kv, mv] 40 (0, 0)) := (hg4.block r hrlt (fun e => HSEP.out e.symm)).trans H.out.obj; have k2 := (rcells hm4).2.2.1; have kz := (rcells hm4).2.2.2; have HO4 := Lib.hid ho4; have HG4 := Lib.hid hg4; have HB4 := Lib.hid hb4; have HM4 := Lib.hid hm4; clear ho4 hg4 hb4 hl4 hm4)))
  go_ret3
  refine ⟨rfl, ?_⟩
  have h := H.out
  have hgr : g ≠ r := by
    rcases HB4.out with e | e
    · intro e2; rw [e2] at e; exact HSEP.out e
    · have e3 : g = w.heap.size + 1 := e
      omega
  have hkeep : ∀ b, b < w.heap.size → mv.ownBlock ≠ some b → w4.heap[b]? = w.heap[b]? := fun b hb hne => HG4.out.block b hb (fun e => hne e.symm)
  have hu : NewOwn w mv (.slice (some ⟨g, 0, none⟩) ((S.making.map enM).length + 1) cap) := by
    rcases HB4.out with e | e
    · exact .inl (by rw [e]; rfl)
    · exact .inr ⟨g, rfl, by have e3 : g = w.heap.size + 1 := e; omega⟩
  have hnm := getK_none.1 HF.out
  obtain ⟨a1, a2⟩ := h.setMaking (w' := w4.setCell ⟨r, 2, none⟩ (.slice (some ⟨g, 0, none⟩) ((S.making.map enM).length + 1) cap)) (M' := S.making ++ [(k, ⟨who, [], none, 0, 0⟩)]) (.inl hu) (by rw [keys_app]; exact nodup_app h.umaking hnm)
    (fun k' hk' hm => by
      rw [keys_app] at hm
      rcases List.mem_append.1 hm with hm | hm
      · exact h.apart k' hk' hm
      · simp at hm; subst hm; exact getK_none.1 HK.out hk')
    (by unfold wsFoot; simp [own, RFl.ws, Value.ownBlock])
    (fun p hp => by
      rcases List.mem_append.1 hp with hp | hp
      · exact .inl hp
      · simp at hp; subst hp; exact .inr ⟨rfl, rfl⟩)
    (set_heap HM4.out)
    (by
      have := HO4.out
      rw [List.map_append]
      exact Own.keep2 this (fun q hq => set_other (by simp [Value.ownBlock] at hq; rw [← hq]; exact hgr)))
    (fun b hb h1 h2 => (set_other h1).trans (hkeep b (h.lt b hb) h2))
  rw [List.length_map] at a1 a2
  refine ⟨_, _, _, by simpa using a1, by simp [RS.abs, rA], by simpa using a2, ?_⟩
  have o1 : Only (rfoot S r kv mv) w w4 := by
    refine ⟨HG4.out.os, HG4.out.tape, HG4.out.output, HG4.out.size, fun b hb hf => hkeep b hb (fun e => hf (rfoot_mv e))⟩
  exact o1.trans (set_only rfoot_r)
end
end

section
open Go.RowKit Go.Maps Go.Sort
set_option linter.unusedVariables false
set_option linter.unusedSimpArgs false
section
variable {w w' : World} {r : Nat} {S : RS} {kv mv : Value} {k : ByteArray} {who : Int} {f : RFl}
set_option maxRecDepth 100000 in
set_option maxHeartbeats 800000 in
theorem refAsk_own (h : RefAt w r S kv mv) (hk : getK S.kept k = none) (hf : getK S.making k = some f) (hw : f.who = who) (hb1 : S.kept.length ≤ 1000) (hb2 : S.making.length ≤ 1000) :
    Calls Try.prog 22 #[.pointer (some ⟨r, 0, none⟩), .string k, .int .i64 who] w fun e w' => e = .returned (.tuple #[.int .i64 0, .int .i64 0, .int .i64 19]) ∧ ∃ q, w' = w.drewN q := by
  obtain ⟨r0, r1, r2, rz⟩ := rcells h.obj
  have F1 := Lib.hid (findK_none h.kept hb1 h.ukept hk)
  obtain ⟨i, hi, _, _⟩ := findM_some h.making hb2 h.umaking hf
  have hfi : ∀ q, Calls Try.prog 41 #[mv, .string k] (w.drewN q) fun e w' => e = .returned (.int .i64 (i : Int)) ∧ ∃ q', w' = (w.drewN q).drewN q' := fun q => by
    obtain ⟨j, hj, _, hc⟩ := findM_some (w := w.drewN q) (Own.keep2 h.making (fun _ _ => rfl)) hb2 h.umaking hf
    rw [nodup_idx h.umaking (key_at hi) (key_at hj)]
    exact hc
  have hil : i < S.making.length := (List.getElem?_eq_some_iff.1 hi).1
  have hem : (S.making.map enM)[i]? = some (enM (k, f)) := by rw [List.getElem?_map, hi]; rfl
  obtain ⟨g, cap, hmv, _, _, _, hrow⟩ := h.making.form (l := S.making.map enM) (by intro e; simp at e; rw [e] at hil; simp at hil)
  obtain ⟨b, off, e, _, d0, d1, d2, d3⟩ := en_at hrow hem
  simp only [Option.some.injEq, Addr.mk.injEq, and_true] at e
  obtain ⟨rfl, rfl⟩ := e
  rw [List.length_map] at hmv
  subst hmv
  simp only [Nat.zero_add, enM] at d0 d1 d2 d3
  rw [hw] at d2
  have hi0 : (0 : Int) ≤ (i : Int) := by omega
  have hi1 : (i : Int) < (S.making.length : Int) := by omega
  have hin : ¬ (i : Int) < 0 := by omega
  have F2 := Lib.hid hfi
  clear hfi hem hrow hi hk hf h
  go_enter Try.func22, Try.ntmps22
  go_wp2_with (first | (go_at_call 41; refine (F2.out q1).mono ?_; rintro e w1 ⟨rfl, q2, rfl⟩) | (go_at_call 41; refine F1.out.mono ?_; rintro e w1 ⟨rfl, q1, rfl⟩))
  go_ret3
  exact ⟨rfl, _, rfl⟩
set_option maxRecDepth 100000 in
set_option maxHeartbeats 800000 in
theorem refAsk_waits (h : RefAt w r S kv mv) (hk : getK S.kept k = none) (hf : getK S.making k = some f) (hw : ¬ f.who = who) (hm : who ∈ f.wait) (hb1 : S.kept.length ≤ 1000) (hb2 : S.making.length ≤ 1000) (hb3 : f.wait.length ≤ 1000) :
    Calls Try.prog 22 #[.pointer (some ⟨r, 0, none⟩), .string k, .int .i64 who] w fun e w' => e = .returned (.tuple #[.int .i64 0, .int .i64 3, .int .i64 0]) ∧ ∃ q, w' = w.drewN q := by
  obtain ⟨r0, r1, r2, rz⟩ := rcells h.obj
  have F1 := Lib.hid (findK_none h.kept hb1 h.ukept hk)
  obtain ⟨i, hi, _, _⟩ := findM_some h.making hb2 h.umaking hf
  have hfi : ∀ q, Calls Try.prog 41 #[mv, .string k] (w.drewN q) fun e w' => e = .returned (.int .i64 (i : Int)) ∧ ∃ q', w' = (w.drewN q).drewN q' := fun q => by
    obtain ⟨j, hj, _, hc⟩ := findM_some (w := w.drewN q) (Own.keep2 h.making (fun _ _ => rfl)) hb2 h.umaking hf
    rw [nodup_idx h.umaking (key_at hi) (key_at hj)]
    exact hc
  have hil : i < S.making.length := (List.getElem?_eq_some_iff.1 hi).1
  have hem : (S.making.map enM)[i]? = some (enM (k, f)) := by rw [List.getElem?_map, hi]; rfl
  obtain ⟨g, cap, hmv, _, _, _, hrow⟩ := h.making.form (l := S.making.map enM) (by intro e; simp at e; rw [e] at hil; simp at hil)
  obtain ⟨b, off, e, _, d0, d1, d2, d3⟩ := en_at hrow hem
  simp only [Option.some.injEq, Addr.mk.injEq, and_true] at e
  obtain ⟨rfl, rfl⟩ := e
  rw [List.length_map] at hmv
  subst hmv
  simp only [Nat.zero_add, enM] at d0 d1 d2 d3
  have hws := h.ws _ (getK_mem hf)
  obtain ⟨gq, oq, capq, hvq, _, _, hcq, _⟩ := hws.form (by intro e; simp at e; rw [e] at hm; cases hm)
  unfold RFl.ws at hvq
  simp only [Value.slice.injEq, List.length_map] at hvq
  obtain ⟨e1, e2, e3⟩ := hvq
  rw [e1, e2, e3] at d3
  have hi0 : (0 : Int) ≤ (i : Int) := by omega
  have hi1 : (i : Int) < (S.making.length : Int) := by omega
  have hin : ¬ (i : Int) < 0 := by omega
  have hwl : f.wait.length ≤ 9223372036854775807 := by omega
  have F2 := Lib.hid hfi
  have HCQ := Lib.hid hcq
  have HM := Lib.hid hm
  clear hfi hem hrow hi hk hf h hws e1 e2 e3 hcq hm
  go_enter Try.func22, Try.ntmps22
  go_wp2_with (first | (go_at_call 41; refine (F2.out q1).mono ?_; rintro e w1 ⟨rfl, q2, rfl⟩) | (go_at_call 41; refine F1.out.mono ?_; rintro e w1 ⟨rfl, q1, rfl⟩))
  go_loopw [12] (fun i12 wr => ∃ j : Nat, i12 = .int .i64 j ∧ j ≤ f.wait.length ∧ (∀ j' y, f.wait[j']? = some y → j' < j → y ≠ who) ∧ ∃ q, wr = w.drewN q) (fun i12 _ => f.wait.length - (intOf i12).toNat)
  case atStart => exact ⟨0, rfl, Nat.zero_le _, fun j _ _ h => absurd h (Nat.not_lt_zero _), _, rfl⟩
  case round =>
    obtain ⟨j, rfl, hj, hno, q, rfl⟩ := hrel
    have HNO := Lib.hid hno
    clear hno
    by_cases hlt : j < f.wait.length
    · obtain ⟨y, hy⟩ : ∃ y, f.wait[j]? = some y := ⟨_, List.getElem?_eq_getElem hlt⟩
      have hcl : w.cell? ⟨gq, oq + j, none⟩ = some (.int .i64 y) := HCQ.out j _ (by simp [hy])
      have HY := Lib.hid hy
      clear hy
      by_cases he : y = who
      · subst he
        go_wp2_with fail
        go_ret3
        exact ⟨rfl, _, rfl⟩
      · go_wp2_with fail
        go_roundw
        case rel => exact ⟨j + 1, by go_num, by omega, fun j' z hj' h => by
          rcases Nat.lt_or_ge j' j with h1 | h1
          · exact HNO.out j' z hj' h1
          · obtain rfl : j' = j := by omega
            have e := HY.out
            rw [hj'] at e
            cases e
            exact he, q, rfl⟩
        case measure => simp only [intOf]; omega
    · exfalso
      obtain ⟨j', hj', e⟩ := List.getElem_of_mem HM.out
      exact HNO.out j' _ (List.getElem?_eq_getElem hj') (by omega) e
end
end

section
open Go.RowKit Go.Maps Go.Sort
set_option linter.unusedVariables false
set_option linter.unusedSimpArgs false
theorem Own.lower {α : Type} {cs : α → List Value} {sz : Nat} {e : TypeId} {w : World} {B B' : Nat} {v : Value} {l : List α} (h : Own cs sz e w B v l) (hB : B' ≤ B) : Own cs sz e w B' v l := by
  refine ⟨h.1, ?_⟩
  rcases h.2 with hn | ⟨g, cap, cur, h1, h2, rest⟩
  · exact .inl hn
  · exact .inr ⟨g, cap, cur, h1, Nat.le_trans hB h2, rest⟩
section
variable {w w' : World} {r : Nat} {S : RS} {kv mv : Value} {k : ByteArray} {who : Int} {x : Int}
theorem ref_hit_end {W4 w5 : World} {gg n cc i : Nat} (h : RefAt w r S kv mv) (hk : getK S.kept k = some x) (hdr : S.kept.eraseIdx i = dropK S.kept k) (hon : Only (rfoot S r kv mv) w W4) (hsz : w.heap.size ≤ W4.heap.size) (hold : ∀ b, b < w.heap.size → W4.heap[b]? = w.heap[b]?)
    (ho5 : Own En.cells 4 92 w5 W4.heap.size (.slice (some ⟨gg, 0, none⟩) n cc) ((S.kept.map enK).eraseIdx i ++ [⟨k, x, 0, none, 0, 0⟩])) (hb5 : Below W4.heap.size W4 w5) (hr5 : w5.heap[r]? = some (.cells #[.int .i64 (S.most : Int), kv, mv] 40 (0, 0))) :
    RefSteps w r S kv mv (w5.setCell ⟨r, 1, none⟩ (.slice (some ⟨gg, 0, none⟩) n cc)) { S.abs with kept := dropK S.kept k ++ [(k, x)] } := by
  have hgg : W4.heap.size ≤ gg := (Own.lt ho5 gg rfl).1
  have hrlt := h.lt r rfoot_r
  have hkm : k ∈ keys S.kept := by
    rcases Classical.em (k ∈ keys S.kept) with h | h
    · exact h
    · rw [getK_none.2 h] at hk; cases hk
  have hrow : ((S.kept.map enK).eraseIdx i ++ [⟨k, x, 0, none, 0, 0⟩]) = (dropK S.kept k ++ [(k, x)]).map enK := by
    rw [List.map_append, ← hdr, erase_split, erase_split, List.map_append, List.map_take, List.map_drop]; rfl
  rw [hrow] at ho5
  obtain ⟨a1, a2⟩ := h.setKept (w' := w5.setCell ⟨r, 1, none⟩ (.slice (some ⟨gg, 0, none⟩) n cc)) (K' := dropK S.kept k ++ [(k, x)]) (kv' := .slice (some ⟨gg, 0, none⟩) n cc) (.inl (.inr ⟨gg, rfl, by omega⟩))
    (by rw [keys_app]; exact nodup_app (nodup_dropK k h.ukept) (not_mem_dropK _ _))
    (fun k' hk' => by
      rw [keys_app] at hk'
      rcases List.mem_append.1 hk' with h' | h'
      · rw [keys_dropK] at h'; exact h.apart k' (List.mem_filter.1 h').1
      · simp at h'; subst h'; exact h.apart _ hkm)
    (set_heap hr5) (Own.keep2 (Own.lower ho5 (Nat.zero_le _)) (fun q hq => set_other (by simp [Value.ownBlock] at hq; omega)))
    (fun b hb h1 _ => (set_other h1).trans ((hb5.block b (by have := h.lt b hb; omega)).trans (hold b (h.lt b hb))))
  refine ⟨_, _, _, a1, rfl, a2, ?_⟩
  have o1 : Only (rfoot S r kv mv) W4 w5 := ⟨hb5.os, hb5.tape, hb5.output, hb5.size, fun b hb _ => hb5.block b hb⟩
  exact hon.trans (o1.trans (set_only rfoot_r))
set_option maxRecDepth 100000 in
set_option maxHeartbeats 1600000 in
theorem refAsk_hit (h : RefAt w r S kv mv) (hk : getK S.kept k = some x) (hb1 : S.kept.length ≤ 1000) :
    Calls Try.prog 22 #[.pointer (some ⟨r, 0, none⟩), .string k, .int .i64 who] w fun e w' => e = .returned (.tuple #[.int .i64 x, .int .i64 1, .int .i64 0]) ∧
      RefSteps w r S kv mv w' { S.abs with kept := dropK S.kept k ++ [(k, x)] } := by
  obtain ⟨i92, hi92, hz0, hz1, hz2⟩ := info_parts Try.info92
  obtain ⟨r0, r1, r2, rz⟩ := rcells h.obj
  obtain ⟨i, hi, hdr, hfi⟩ := findK_some h.kept hb1 h.ukept hk
  have hil : i < S.kept.length := (List.getElem?_eq_some_iff.1 hi).1
  have hem : (S.kept.map enK)[i]? = some (enK (k, x)) := by rw [List.getElem?_map, hi]; rfl
  obtain ⟨g, cap, hkv, hcap, hcapm, hglt, hrow⟩ := h.kept.form (l := S.kept.map enK) (by intro e; simp at e; rw [e] at hil; simp at hil)
  obtain ⟨b, off, e, _, d0, d1, d2, d3⟩ := en_at hrow hem
  simp only [Option.some.injEq, Addr.mk.injEq, and_true] at e
  obtain ⟨rfl, rfl⟩ := e
  rw [List.length_map] at hcap hkv
  subst hkv
  simp only [Nat.zero_add, enK] at d0 d1 d2 d3
  have hi0 : (0 : Int) ≤ (i : Int) := by omega
  have hi1 : (i : Int) < (S.kept.length : Int) := by omega
  have hrlt := h.lt r rfoot_r
  have hkr : g ≠ r := fun e => h.sep.1 (by rw [e]; rfl)
  have F1 := Lib.hid hfi
  have H := Lib.hid h
  have HROW := Lib.hid hrow
  have HCAP := Lib.hid hcap
  have HCAPM := Lib.hid hcapm
  have HDR := Lib.hid hdr
  have HIL := Lib.hid hil
  have HK := Lib.hid hk
  clear hfi hem hrow hi h hdr hcap hcapm hk hil
  have hbh : ∀ (q : Nat) (arr : Array Value), ((w.drewN q).alloc (.cells arr 92)).heap[w.heap.size]? = some (.cells arr 92 (0, 0)) := fun q arr => heap_alloc_new (w.drewN q) (.cells arr 92)
  have hbx : ∀ (q : Nat) (arr : Array Value) (j : Nat), ((w.drewN q).alloc (.cells arr 92)).cell? ⟨w.heap.size, j, none⟩ = arr[j]? := fun q arr j => by
    rw [cell_of_row _ _ _ _ _ _ (hbh q arr)]
  have hbz : ∀ (q : Nat) (arr : Array Value) (j : Nat), ((w.drewN q).alloc (.cells arr 92)).frozen? ⟨w.heap.size, j, none⟩ = false := fun q arr j => by
    unfold World.frozen?
    rw [hbh q arr]; simp
  go_enter Try.func22, Try.ntmps22
  go_wp2_with (go_at_call 41; refine F1.out.mono ?_; rintro e w1 ⟨rfl, q1, rfl⟩)
  obtain ⟨W4, hW4⟩ : ∃ W, ((((((w.drewN q1).alloc (.cells #[.string ⟨#[]⟩, .int .i64 0, .int .i64 0, .slice none 0 0] 92)).setCell ⟨w.heap.size, 0, none⟩ (.string k)).setCell ⟨w.heap.size, 1, none⟩ (.int .i64 x)).setCell ⟨w.heap.size, 2, none⟩ (.int .i64 0)).setCell ⟨w.heap.size, 3, none⟩ (.slice none 0 0)) = W := ⟨_, rfl⟩
  have hbox : W4.heap[w.heap.size]? = some (.cells #[.string k, .int .i64 x, .int .i64 0, .slice none 0 0] 92 (0, 0)) := by
    rw [← hW4]
    exact set_heap (set_heap (set_heap (set_heap (hbh q1 _))))
  have hold : ∀ b, b < w.heap.size → W4.heap[b]? = w.heap[b]? := fun b hb => by
    rw [← hW4, set_other (by omega), set_other (by omega), set_other (by omega), set_other (by omega)]
    exact Go.heap_alloc_old (w.drewN q1) _ hb
  have hsz : W4.heap.size = w.heap.size + 1 := by
    rw [← hW4, set_size, set_size, set_size, set_size, World.size_alloc]; rfl
  have hon : Only (rfoot S r (.slice (some ⟨g, 0, none⟩) S.kept.length cap) mv) w W4 := ⟨by rw [← hW4]; rfl, by rw [← hW4]; rfl, by rw [← hW4]; rfl, by omega, fun b hb _ => hold b hb⟩
  rw [hW4]
  have hlen : ((S.kept.map enK).eraseIdx i).length + 1 ≤ 1000 := by
    rw [List.length_eraseIdx]
    have := HIL.out
    simp only [List.length_map]
    split <;> omega
  have hbut : ∀ W : World, Below W4.heap.size W4 W → Calls Try.prog 43 #[.slice (some ⟨g, 0, none⟩) S.kept.length cap, .int .i64 (i : Int)] W fun e w' => ∃ v, e = .returned v ∧ Own En.cells 4 92 w' W4.heap.size v ((S.kept.map enK).eraseIdx i) ∧ Below W4.heap.size W4 w' ∧ ∀ b, b < W.heap.size → w'.heap[b]? = W.heap[b]? := fun W hW => by
    have hrow4 : RowOf En.cells 4 W W.heap.size (some ⟨g, 0, none⟩) (S.kept.map enK) := (HROW.out.keep (w' := W) (fun p hp => World.cell?_of_block (w := w) ((hW.block p.block (by omega)).trans (hold p.block hp)))).more (show w.heap.size ≤ W.heap.size by have := hW.size; omega)
    have hb := but_any g 0 cap (S.kept.map enK) i W (by rw [List.length_map]; exact hb1) (by rw [List.length_map]; exact HIL.out) (by rw [List.length_map]; exact HCAP.out) HCAPM.out hrow4
    rw [List.length_map] at hb
    refine hb.mono ?_
    rintro e w' ⟨v, rfl, ho, hbb⟩
    exact ⟨v, rfl, Own.lower ho hW.size, hW.trans (hbb.mono hW.size), fun b hb => hbb.block b hb⟩
  have hr4 : W4.heap[r]? = some (.cells #[.int .i64 (S.most : Int), .slice (some ⟨g, 0, none⟩) S.kept.length cap, mv] 40 (0, 0)) := (hold r hrlt).trans H.out.obj
  have u1 : W4.cell? ⟨r, 1, none⟩ = some (.slice (some ⟨g, 0, none⟩) S.kept.length cap) := (rcells hr4).2.1
  have u2 : W4.frozen? ⟨r, 1, none⟩ = false := (rcells hr4).2.2.2 1
  have x0 : W4.cell? ⟨w.heap.size, 0, none⟩ = some (.string k) := by rw [cell_of_row _ _ _ _ _ _ hbox]; rfl
  have x1 : W4.cell? ⟨w.heap.size, 1, none⟩ = some (.int .i64 x) := by rw [cell_of_row _ _ _ _ _ _ hbox]; rfl
  have x2 : W4.cell? ⟨w.heap.size, 2, none⟩ = some (.int .i64 0) := by rw [cell_of_row _ _ _ _ _ _ hbox]; rfl
  have x3 : W4.cell? ⟨w.heap.size, 3, none⟩ = some (.slice none 0 0) := by rw [cell_of_row _ _ _ _ _ _ hbox]; rfl
  have HBUT := Lib.hid hbut
  have HR4 := Lib.hid hr4
  have HBOX := Lib.hid hbox
  have HOLD := Lib.hid hold
  have HSZ := Lib.hid hsz
  have HON := Lib.hid hon
  have HLEN := Lib.hid hlen
  have z1 : r < W4.heap.size := by omega
  have z2 : w.heap.size < W4.heap.size := by omega
  clear hbut hr4 hbox hold hon hW4 hbh hbx hbz r0 r1 r2 rz d0 d1 d2 d3 hlen hsz
  go_region_law (first | (refine step_append_rec (cs := En.cells) (by rfl) _ _ _ (by rfl) 92 i92 _ 56 Try.underlying38 hi92 hz0 hz1 hz2 rfl (by omega) En.len En.one _ W4.heap.size wS.heap.size vb ((S.kept.map enK).eraseIdx i) ⟨k, x, 0, none, 0, 0⟩ _ (0, 0) (by rfl) (by rfl) (by rfl) (by exact new_at (w := wS) rfl) (Own.alloc HOB.out _) (by have := HLEN.out; unfold maxLen; omega) (by have := HLEN.out; omega) (by rw [World.size_alloc]; have h9 : W4.heap.size ≤ wS.heap.size := HBS.out.size; omega) (wS.heap.size + 1) (by simp) ?_; intro gg cc w5 hown5 hg5 hat5 hlt5; have hb5 : Below W4.heap.size W4 w5 := (HBS.out.alloc HBS.out.size _).grown hg5 (by rw [World.size_alloc]; have h9 : W4.heap.size ≤ wS.heap.size := HBS.out.size; omega) (fun q hq => (Own.lt HOB.out q hq).1); have hr5 := (hb5.block r (by have := HSZ.out; omega)).trans HR4.out; have t1 : w5.cell? ⟨r, 1, none⟩ = some (.slice (some ⟨g, 0, none⟩) S.kept.length cap) := (rcells hr5).2.1; have t2 : w5.frozen? ⟨r, 1, none⟩ = false := (rcells hr5).2.2.2 1; have hbx5 := (hb5.block w.heap.size (by have := HSZ.out; omega)).trans HBOX.out; have v1 : w5.cell? ⟨w.heap.size, 1, none⟩ = some (.int .i64 x) := (by rw [cell_of_row _ _ _ _ _ _ hbx5]; rfl); have HO5 := Lib.hid hown5; have HB5 := Lib.hid hb5; have HR5 := Lib.hid hr5; clear hown5 hg5 hat5 hlt5 hr5 hb5 hbx5) | (refine step_append_rec (cs := En.cells) (by rfl) _ _ _ (by rfl) 92 i92 _ 56 Try.underlying38 hi92 hz0 hz1 hz2 rfl (by omega) En.len En.one wS W4.heap.size W4.heap.size vb ((S.kept.map enK).eraseIdx i) ⟨k, x, 0, none, 0, 0⟩ _ (0, 0) (by rfl) (by rfl) (by rfl) (by first | exact (HBW.out W4.heap.size (by rw [World.size_alloc]; exact Nat.lt_succ_self _)).trans (heap_alloc_new W4.drew _) | exact (HBW.out W4.heap.size (by show W4.heap.size < (W4.alloc _).heap.size; rw [World.size_alloc]; exact Nat.lt_succ_self _)).trans (heap_alloc_new W4 _)) HOB.out (by have := HLEN.out; unfold maxLen; omega) (by have := HLEN.out; omega) HBS.out.size wS.heap.size rfl ?_; intro gg cc w5 hown5 hg5 hat5 hlt5; have hb5 : Below W4.heap.size W4 w5 := HBS.out.grown hg5 HBS.out.size (fun q hq => (Own.lt HOB.out q hq).1); have hr5 := (hb5.block r (by have := HSZ.out; omega)).trans HR4.out; have t1 : w5.cell? ⟨r, 1, none⟩ = some (.slice (some ⟨g, 0, none⟩) S.kept.length cap) := (rcells hr5).2.1; have t2 : w5.frozen? ⟨r, 1, none⟩ = false := (rcells hr5).2.2.2 1; have hbx5 := (hb5.block w.heap.size (by have := HSZ.out; omega)).trans HBOX.out; have v1 : w5.cell? ⟨w.heap.size, 1, none⟩ = some (.int .i64 x) := (by rw [cell_of_row _ _ _ _ _ _ hbx5]; rfl); have HO5 := Lib.hid hown5; have HB5 := Lib.hid hb5; have HR5 := Lib.hid hr5; clear hown5 hg5 hat5 hlt5 hr5 hb5 hbx5) | (go_simp; go_at_call 43; refine (HBUT.out _ (by first | exact Below.drew (Below.refl _ _) | exact Below.alloc (Below.drew (Below.refl _ _)) (Nat.le_refl _) _ | exact Below.drew (Below.alloc (Below.refl _ _) (Nat.le_refl _) _))).mono ?_; rintro e wS ⟨vb, rfl, hob, hbs, hbw⟩; have hrS := (hbs.block r (by have := HSZ.out; omega)).trans HR4.out; have hbS := (hbs.block w.heap.size (by have := HSZ.out; omega)).trans HBOX.out; have s1 : wS.cell? ⟨r, 1, none⟩ = some (.slice (some ⟨g, 0, none⟩) S.kept.length cap) := (rcells hrS).2.1; have s2 : wS.frozen? ⟨r, 1, none⟩ = false := (rcells hrS).2.2.2 1; have y0 : wS.cell? ⟨w.heap.size, 0, none⟩ = some (.string k) := (by rw [cell_of_row _ _ _ _ _ _ hbS]; rfl); have y1 : wS.cell? ⟨w.heap.size, 1, none⟩ = some (.int .i64 x) := (by rw [cell_of_row _ _ _ _ _ _ hbS]; rfl); have y2 : wS.cell? ⟨w.heap.size, 2, none⟩ = some (.int .i64 0) := (by rw [cell_of_row _ _ _ _ _ _ hbS]; rfl); have y3 : wS.cell? ⟨w.heap.size, 3, none⟩ = some (.slice none 0 0) := (by rw [cell_of_row _ _ _ _ _ _ hbS]; rfl); have zr : r < wS.heap.size := (Array.getElem?_eq_some_iff.1 hrS).1; have zb : w.heap.size < wS.heap.size := (Array.getElem?_eq_some_iff.1 hbS).1; have HOB := Lib.hid hob; have HBS := Lib.hid hbs; have HBW := Lib.hid hbw; clear hob hbs hbw hrS hbS))
  all_goals (go_wp2_with fail; go_ret3; exact ⟨rfl, ref_hit_end H.out HK.out HDR.out HON.out (by have := HSZ.out; omega) HOLD.out HO5.out HB5.out HR5.out⟩)
end
end

section
open Go.RowKit Go.Maps Go.Sort
set_option linter.unusedVariables false
set_option linter.unusedSimpArgs false
theorem Try.info3r : (Try.prog.info? 3).map (fun i => (i.zero, i.size, i.bytes)) = some (some (.int .i64 0), 1, 8) := by kernel_rfl
section
variable {w w' : World} {r : Nat} {S : RS} {kv mv : Value} {k : ByteArray} {who : Int} {f : RFl}
theorem RefAt.setWait {g n cap i : Nat} {f' : RFl} (h : RefAt w r S kv (.slice (some ⟨g, 0, none⟩) n cap)) (hi : S.making[i]? = some (k, f)) (hwho : f'.who = f.who)
    (hu : NewOwn w f.ws f'.ws) (hrow : OffRow 3 w' f'.ws (f'.wait.map (Value.int .i64)))
    (hmk : ∀ cur, w.heap[g]? = some (.cells cur 92 (0, 0)) → w'.heap[g]? = some (.cells (cur.setIfInBounds (i * 4 + 3) (.slice f'.wa f'.wn f'.wc)) 92 (0, 0)))
    (hk : ∀ b ∈ rfoot S r kv (.slice (some ⟨g, 0, none⟩) n cap), b ≠ g → f.ws.ownBlock ≠ some b → w'.heap[b]? = w.heap[b]?) :
    RefAt w' r { S with making := setK S.making k f' } kv (.slice (some ⟨g, 0, none⟩) n cap) ∧ ∀ b ∈ rfoot { S with making := setK S.making k f' } r kv (.slice (some ⟨g, 0, none⟩) n cap), b ∈ rfoot S r kv (.slice (some ⟨g, 0, none⟩) n cap) ∨ w.heap.size ≤ b := by
  obtain ⟨s1, s2, s3, s4⟩ := h.sep
  have hl := h.lt
  have hn := h.nodup
  obtain ⟨hf, _⟩ := idx_of h.umaking hi
  obtain ⟨M1, M2, e, k1, k2⟩ := split_at hf h.umaking
  have e2 : setK S.making k f' = M1 ++ (k, f') :: M2 := by rw [e]; exact setK_split _ k1 k2
  have hpm : (k, f) ∈ S.making := getK_mem hf
  have hws1 : wsFoot S.making = wsFoot M1 ++ (own f.ws ++ wsFoot M2) := by rw [e]; unfold wsFoot; simp
  have hws2 : wsFoot (setK S.making k f') = wsFoot M1 ++ (own f'.ws ++ wsFoot M2) := by rw [e2]; unfold wsFoot; simp
  have hkm : keys (setK S.making k f') = keys S.making := keys_setK _ _ _
  have hnn : ((r :: (own kv ++ (own (.slice (some ⟨g, 0, none⟩) n cap) ++ wsFoot M1))) ++ (own f.ws ++ wsFoot M2)).Nodup := by
    unfold rfoot at hn; rw [hws1] at hn
    simpa [List.append_assoc] using hn
  have hin : ∀ b, b ∈ (r :: (own kv ++ (own (.slice (some ⟨g, 0, none⟩) n cap) ++ wsFoot M1))) ++ (own f.ws ++ wsFoot M2) ↔ b ∈ rfoot S r kv (.slice (some ⟨g, 0, none⟩) n cap) := fun b => by
    unfold rfoot; rw [hws1]; simp [List.append_assoc]
  have hsepw : ∀ p ∈ S.making, p.1 ≠ k → ∀ q, p.2.ws.ownBlock = some q → f.ws.ownBlock ≠ some q := fun p hp hpk q hq hfq => by
    rw [List.nodup_append] at hnn
    obtain ⟨n1, n2, n3⟩ := hnn
    rw [List.nodup_append] at n2
    rw [e] at hp
    rcases List.mem_append.1 hp with hp | hp
    · have hm : q ∈ wsFoot M1 := List.mem_flatMap.2 ⟨p, hp, mem_own.2 hq⟩
      exact n3 q (List.mem_cons_of_mem _ (List.mem_append_right _ (List.mem_append_right _ hm))) q (List.mem_append_left _ (mem_own.2 hfq)) rfl
    · rcases List.mem_cons.1 hp with rfl | hp
      · exact hpk rfl
      · exact n2.2.2 q (mem_own.2 hfq) q (List.mem_flatMap.2 ⟨p, hp, mem_own.2 hq⟩) rfl
  have hfs := s4 _ hpm
  refine ⟨⟨?_, ?_, ?_, ?_, ?_, h.ukept, by rw [hkm]; exact h.umaking, by rw [hkm]; exact h.apart⟩, ?_⟩
  · rw [hk r rfoot_r (fun e => s2 (by rw [e]; rfl)) (fun e => (hfs r e).1 rfl)]; exact h.obj
  · exact h.kept.keep2 fun q hq => hk q (rfoot_kv hq) (fun e => s3 q hq (by rw [e]; rfl)) (fun e => (hfs q e).2.1 hq)
  · have hem : (S.making.map enM)[i]? = some (enM (k, f)) := by rw [List.getElem?_map, hi]; rfl
    have := h.making.setWs hem f'.wa f'.wn f'.wc hmk
    have e3 : (S.making.map enM).set i { enM (k, f) with wa := f'.wa, wn := f'.wn, wc := f'.wc } = (setK S.making k f').map enM := by
      rw [setK_idx h.umaking hi, List.map_set]
      simp [enM, hwho]
    rw [e3] at this
    exact this
  · intro p hp
    rw [e2] at hp
    have hold : ∀ p ∈ S.making, p.1 ≠ k → OffRow 3 w' p.2.ws (p.2.wait.map (Value.int .i64)) := fun p hp hpk =>
      (h.ws p hp).keep fun q hq => hk q (rfoot_ws hp hq) (fun e => (s4 p hp q hq).2.2 (by rw [e]; rfl)) (hsepw p hp hpk q hq)
    rcases List.mem_append.1 hp with hp | hp
    · exact hold p (by rw [e]; simp [hp]) (fun e3 => k1 (e3 ▸ List.mem_map_of_mem (f := Prod.fst) hp))
    · rcases List.mem_cons.1 hp with rfl | hp
      · exact hrow
      · exact hold p (by rw [e]; simp [hp]) (fun e3 => k2 (e3 ▸ List.mem_map_of_mem (f := Prod.fst) hp))
  · have := nodup_swap hnn (U' := own f'.ws) (by
      rcases hu.list with e | ⟨g', e, hg⟩
      · exact .inl e
      · refine .inr (.inr ⟨g', e, fun hm => ?_, fun hm => ?_⟩)
        · have := hl g' ((hin g').1 (List.mem_append_left _ hm)); omega
        · have := hl g' ((hin g').1 (List.mem_append_right _ (List.mem_append_right _ hm))); omega)
    unfold rfoot; rw [hws2]
    simpa [List.append_assoc] using this
  · intro b hb
    unfold rfoot at hb; rw [hws2] at hb
    have hb2 : b ∈ (r :: (own kv ++ (own (.slice (some ⟨g, 0, none⟩) n cap) ++ wsFoot M1))) ++ (own f'.ws ++ wsFoot M2) := by simpa [List.append_assoc] using hb
    rcases List.mem_append.1 hb2 with hb2 | hb2
    · exact .inl ((hin b).1 (List.mem_append_left _ hb2))
    · rcases List.mem_append.1 hb2 with hb2 | hb2
      · rcases hu.list with e | ⟨g', e, hg⟩
        · rw [e] at hb2; exact .inl ((hin b).1 (List.mem_append_right _ (List.mem_append_left _ hb2)))
        · rw [e] at hb2; simp at hb2; subst hb2; exact .inr hg
      · exact .inl ((hin b).1 (List.mem_append_right _ (List.mem_append_right _ hb2)))
theorem ref_wait_end {w5 : World} {g cap i gw ow cc cw : Nat} {Aw : Option Addr} (h : RefAt w r S kv (.slice (some ⟨g, 0, none⟩) S.making.length cap)) (hi : S.making[i]? = some (k, f)) (hv : f.ws = .slice Aw f.wait.length cw)
    (hr5 : OffRow 3 w5 (.slice (some ⟨gw, ow, none⟩) (f.wait.length + 1) cc) (f.wait.map (Value.int .i64) ++ [.int .i64 who])) (ho5 : Only (own (.slice Aw f.wait.length cw)) w w5) (hn5 : (Value.slice Aw f.wait.length cw).ownBlock = some gw ∨ w.heap.size ≤ gw) :
    RefSteps w r S kv (.slice (some ⟨g, 0, none⟩) S.making.length cap) (w5.setCell ⟨g, i * 4 + 3, none⟩ (.slice (some ⟨gw, ow, none⟩) (f.wait.length + 1) cc)) { S.abs with making := setK S.abs.making k (f.who, f.wait ++ [who]) } := by
  have hpm := List.mem_of_getElem? hi
  have hsg := h.sep.2.2.2 _ hpm
  have hglt := h.lt g (rfoot_mv rfl)
  rw [← hv] at ho5 hn5
  have hgw : gw ≠ g := by
    rcases hn5 with e | e
    · exact fun e2 => (hsg gw e).2.2 (by rw [e2]; rfl)
    · omega
  have hu : NewOwn w f.ws (.slice (some ⟨gw, ow, none⟩) (f.wait.length + 1) cc) := by
    rcases hn5 with e | e
    · exact .inl (by rw [e]; rfl)
    · exact .inr ⟨gw, rfl, e⟩
  have hng : f.ws.ownBlock ≠ some g := fun e => (hsg g e).2.2 rfl
  obtain ⟨a1, a2⟩ := h.setWait (w' := w5.setCell ⟨g, i * 4 + 3, none⟩ (.slice (some ⟨gw, ow, none⟩) (f.wait.length + 1) cc)) (f' := ⟨f.who, f.wait ++ [who], some ⟨gw, ow, none⟩, f.wait.length + 1, cc⟩) hi rfl hu
    (by
      have := hr5.keep (w' := w5.setCell ⟨g, i * 4 + 3, none⟩ (.slice (some ⟨gw, ow, none⟩) (f.wait.length + 1) cc)) (fun q hq => set_other (by simp [Value.ownBlock] at hq; rw [← hq]; exact hgw))
      simpa [RFl.ws] using this)
    (fun cur hcur => set_heap ((ho5.block g hglt (fun hm => hng (mem_own.1 hm))).trans hcur))
    (fun b hb h1 h2 => (set_other h1).trans (ho5.block b (h.lt b hb) (fun hm => h2 (mem_own.1 hm))))
  refine ⟨_, _, _, a1, ?_, a2, ?_⟩
  · have := setK_map rA S.making k ⟨f.who, f.wait ++ [who], some ⟨gw, ow, none⟩, f.wait.length + 1, cc⟩
    simp only [rA] at this
    unfold RS.abs
    simp only [AS.mk.injEq, true_and]
    exact this.symm
  · exact (ho5.mono (fun b hb => rfoot_ws hpm (mem_own.1 hb))).trans (set_only (rfoot_mv rfl))
set_option maxRecDepth 100000 in
set_option maxHeartbeats 1600000 in
theorem refAsk_wait (h : RefAt w r S kv mv) (hk : getK S.kept k = none) (hf : getK S.making k = some f) (hw : ¬ f.who = who) (hm : ¬ who ∈ f.wait) (hb1 : S.kept.length ≤ 1000) (hb2 : S.making.length ≤ 1000) (hb3 : f.wait.length ≤ 1000) :
    Calls Try.prog 22 #[.pointer (some ⟨r, 0, none⟩), .string k, .int .i64 who] w fun e w' => e = .returned (.tuple #[.int .i64 0, .int .i64 3, .int .i64 0]) ∧
      RefSteps w r S kv mv w' { S.abs with making := setK S.abs.making k (f.who, f.wait ++ [who]) } := by
  obtain ⟨i3, hi3, hz0, hz1, hz2⟩ := info_parts Try.info3r
  obtain ⟨r0, r1, r2, rz⟩ := rcells h.obj
  have F1 := Lib.hid (findK_none h.kept hb1 h.ukept hk)
  obtain ⟨i, hi, _, _⟩ := findM_some h.making hb2 h.umaking hf
  have hfi : ∀ q, Calls Try.prog 41 #[mv, .string k] (w.drewN q) fun e w' => e = .returned (.int .i64 (i : Int)) ∧ ∃ q', w' = (w.drewN q).drewN q' := fun q => by
    obtain ⟨j, hj, _, hc⟩ := findM_some (w := w.drewN q) (Own.keep2 h.making (fun _ _ => rfl)) hb2 h.umaking hf
    rw [nodup_idx h.umaking (key_at hi) (key_at hj)]
    exact hc
  have hil : i < S.making.length := (List.getElem?_eq_some_iff.1 hi).1
  have hem : (S.making.map enM)[i]? = some (enM (k, f)) := by rw [List.getElem?_map, hi]; rfl
  obtain ⟨g, cap, hmv, _, _, hglt, hrow⟩ := h.making.form (l := S.making.map enM) (by intro e; simp at e; rw [e] at hil; simp at hil)
  obtain ⟨b, off, e, _, d0, d1, d2, d3⟩ := en_at hrow hem
  simp only [Option.some.injEq, Addr.mk.injEq, and_true] at e
  obtain ⟨rfl, rfl⟩ := e
  rw [List.length_map] at hmv
  subst hmv
  simp only [Nat.zero_add, enM] at d0 d1 d2 d3
  have hws := h.ws _ (getK_mem hf)
  obtain ⟨Aw, cw, hvq, hmw⟩ := hws.len
  have hvq0 := hvq
  unfold RFl.ws at hvq
  simp only [Value.slice.injEq, List.length_map] at hvq
  obtain ⟨e1, e2, e3⟩ := hvq
  rw [e1, e2, e3] at d3
  rw [List.length_map] at hvq0
  have hws2 : OffRow 3 w (.slice Aw f.wait.length cw) (f.wait.map (Value.int .i64)) := by rw [← hvq0]; exact hws
  have hi0 : (0 : Int) ≤ (i : Int) := by omega
  have hi1 : (i : Int) < (S.making.length : Int) := by omega
  have hin : ¬ (i : Int) < 0 := by omega
  have hwl : f.wait.length ≤ 9223372036854775807 := by omega
  have hgr : g ≠ r := fun e => h.sep.2.1 (by rw [e]; rfl)
  have hrlt := h.lt r rfoot_r
  obtain ⟨cur, hcur⟩ : ∃ cur, w.heap[g]? = some (.cells cur 92 (0, 0)) := by
    rcases h.making.2 with ⟨h1, _⟩ | ⟨g', cap', cur, h1, h2, h3, _⟩
    · cases h1
    · simp only [Value.slice.injEq, Option.some.injEq, Addr.mk.injEq] at h1
      obtain ⟨⟨rfl, _⟩, _⟩ := h1
      exact ⟨cur, h3⟩
  have hsg := (h.sep.2.2.2 _ (getK_mem hf) g)
  have hsr := (h.sep.2.2.2 _ (getK_mem hf) r)
  rw [hvq0] at hsg hsr
  have hng : (Value.slice Aw f.wait.length cw).ownBlock ≠ some g := fun e => (hsg e).2.2 rfl
  have hnr : (Value.slice Aw f.wait.length cw).ownBlock ≠ some r := fun e => (hsr e).1 rfl
  have HNG := Lib.hid hng
  have HNR := Lib.hid hnr
  have HCUR := Lib.hid hcur
  clear hsg hsr hng hnr hcur
  have F2 := Lib.hid hfi
  have HWS := Lib.hid hws2
  have HM := Lib.hid hm
  have H := Lib.hid h
  have HI := Lib.hid hi
  have HF := Lib.hid hf
  have HVQ := Lib.hid hvq0
  clear hfi hem hrow hi hk hf h hws e1 e2 e3 hm hws2 hmw hvq0
  go_enter Try.func22, Try.ntmps22
  go_wp2_with (first | (go_at_call 41; refine (F2.out q1).mono ?_; rintro e w1 ⟨rfl, q2, rfl⟩) | (go_at_call 41; refine F1.out.mono ?_; rintro e w1 ⟨rfl, q1, rfl⟩))
  go_loopw [12] (fun i12 wr => ∃ j : Nat, i12 = .int .i64 j ∧ j ≤ f.wait.length ∧ ∃ q, wr = w.drewN q) (fun i12 _ => f.wait.length - (intOf i12).toNat)
  case atStart => exact ⟨0, rfl, Nat.zero_le _, _, rfl⟩
  case round =>
    obtain ⟨j, rfl, hj, q, rfl⟩ := hrel
    by_cases hlt : j < f.wait.length
    · obtain ⟨y, hy⟩ : ∃ y, f.wait[j]? = some y := ⟨_, List.getElem?_eq_getElem hlt⟩
      have hye : ¬ y = who := fun e => HM.out (e ▸ List.mem_of_getElem? hy)
      obtain ⟨gq, oq, capq, hvq, x1, x2, hcq, x3⟩ := HWS.out.form (by intro e; simp at e; rw [e] at hlt; simp at hlt)
      simp only [Value.slice.injEq] at hvq
      obtain ⟨rfl, x4, rfl⟩ := hvq
      have hcl : w.cell? ⟨gq, oq + j, none⟩ = some (.int .i64 y) := hcq j _ (by simp [hy])
      clear hy hcq x1 x2 x3 x4
      go_wp2_with fail
      go_roundw
      case rel => exact ⟨j + 1, by go_num, by omega, q, rfl⟩
      case measure => simp only [intOf]; omega
    · have hje : j = f.wait.length := by omega
      subst hje
      have t0 : ∀ (q' : Nat) (o : Obj), ((w.drewN q').alloc o).cell? ⟨r, 2, none⟩ = some (.slice (some ⟨g, 0, none⟩) S.making.length cap) := fun q' o => Lib.cell?_alloc_some (W := w.drewN q') o r2
      go_wp2_with fail
      go_region_law (refine step_append_off (by rfl) _ _ 25 (by rfl) 3 i3 _ 8 Try.underlying25 hi3 hz0 hz1 hz2 rfl (.slice Aw f.wait.length cw) _ (by rfl) (HWS.out.keep (fun p hp => Go.heap_alloc_old (w.drewN q) _ (HWS.out.lt p hp))) ⟨w.heap.size, 0, none⟩ (.int .i64 who) (by rfl) (cell_one_new (w.drewN q) (.int .i64 who) 3 0 _ rfl) rfl (by rw [List.length_map]; unfold maxLen; omega) (by rw [List.length_map]; omega) ?_; intro gw ow cc w5 hr5 hg5 hb5; rw [List.length_map] at hr5; have hk5 : ∀ b, b < w.heap.size → (Value.slice Aw f.wait.length cw).ownBlock ≠ some b → w5.heap[b]? = w.heap[b]? := (fun b hb hne => (hg5.block b (Nat.lt_of_lt_of_le hb (by show w.heap.size ≤ ((w.drewN q).alloc _).heap.size; rw [World.size_alloc]; exact Nat.le_succ _)) (fun e => hne e.symm)).trans (Go.heap_alloc_old (w.drewN q) _ hb)); have t2 := (rcells ((hk5 r hrlt HNR.out).trans H.out.obj)).2.2.1; have t3 : w5.cell? ⟨g, i * 4 + 3, none⟩ = some (.slice Aw f.wait.length cw) := (by have e := hk5 g hglt HNG.out; simp only [World.cell?, e] at d3 ⊢; exact d3); have t4 : w5.frozen? ⟨g, i * 4 + 3, none⟩ = false := (by have e := (hk5 g hglt HNG.out).trans HCUR.out; unfold World.frozen?; rw [e]; simp); have ho5 : Only (own (.slice Aw f.wait.length cw)) w w5 := ⟨hg5.os, hg5.tape, hg5.output, Nat.le_trans (by show w.heap.size ≤ ((w.drewN q).alloc _).heap.size; rw [World.size_alloc]; exact Nat.le_succ _) hg5.size, fun b hb hf => hk5 b hb (fun e => hf (mem_own.2 e))⟩; have hn5 : (Value.slice Aw f.wait.length cw).ownBlock = some gw ∨ w.heap.size ≤ gw := (by rcases hb5 with e | e; exact .inl e; exact .inr (by rw [e]; show w.heap.size ≤ ((w.drewN q).alloc _).heap.size; rw [World.size_alloc]; exact Nat.le_succ _)); have HR5 := Lib.hid hr5; have HO5 := Lib.hid ho5; have HN5 := Lib.hid hn5; clear hr5 hg5 hb5 hk5 ho5 hn5)
      all_goals (go_wp2_with fail; go_ret3; exact ⟨rfl, ref_wait_end H.out HI.out HVQ.out HR5.out HO5.out HN5.out⟩)
end
end
end Go.Proofs.Ytjghbcligjiaaaa
