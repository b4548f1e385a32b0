/- edits.Apply. -/
import Derived.Test.YtfflfbnnohlipaaBytes
import Derived.Shelf.RegionOpen
import Derived.Shelf.Abstract
import Derived.RangeFuncBox
import Derived.Laws.CopyOwn
namespace Go.Proofs.Ytfflfbnnohlipaa
open Go.RowKit
set_option linter.unusedVariables false
set_option linter.unusedSimpArgs false
attribute [local go_sem] Oper.semAt_some

theorem pieces_any (A : Option Addr) (c n : Nat) (text : ByteArray) (w : World) :
    Calls Try.prog 33 #[.string text, .slice A n c] w fun e w' => e = .returned (.func (.func 47) #[] #[.pointer (some ⟨w.heap.size + 1, 0, none⟩), .pointer (some ⟨w.heap.size, 0, none⟩)]) ∧
      w' = (w.alloc (.cells #[.string text] 9)).alloc (.cells #[.slice A n c] 22) := by
  have hmf : ∀ (fn : Fn) (first cap : Array Value) (w : World), (Instr.makeFunc fn first cap).run Try.prog w = .ok (.func fn first cap) w := fun _ _ _ _ => rfl
  go_enter Try.func33, Try.ntmps33
  go_wp2
  go_ret
  exact ⟨rfl, rfl⟩

theorem KKp.below {bl bt : Nat} {A : Option Addr} {c : Nat} {l : List Spl} {text : ByteArray} {B B' : Nat} {W W' : World} (h : KKp bl bt A c l text B W) (hb : Below B' W W') (h1 : bl < B') (h2 : bt < B') (h3 : B ≤ B') : KKp bl bt A c l text B W' :=
  ⟨(hb.cell (p := ⟨bl, 0, none⟩) h1).trans h.1, (hb.cell (p := ⟨bt, 0, none⟩) h2).trans h.2.1, h.2.2.below hb h3⟩
theorem KKp.set {bl bt : Nat} {A : Option Addr} {c : Nat} {l : List Spl} {text : ByteArray} {B nb : Nat} {W : World} (h : KKp bl bt A c l text B W) (v : Value) (h1 : bl ≠ nb) (h2 : bt ≠ nb) (h3 : B ≤ nb) : KKp bl bt A c l text B (W.setCell ⟨nb, 0, none⟩ v) :=
  ⟨(World.cell?_setCell_other _ _ _ _ (by intro e; cases e; exact h1 rfl)).trans h.1, (World.cell?_setCell_other _ _ _ _ (by intro e; cases e; exact h2 rfl)).trans h.2.1,
    h.2.2.keep fun p hp => World.cell?_setCell_other _ _ _ _ (fun e => by subst e; simp at hp; omega)⟩

/-- What Apply answers. -/
def applyE (text : ByteArray) (l : List Spl) : Int := if fitsFrom text.size 0 l then (if totalV (piecesFrom text 0 l) ≤ 65536 then 0 else 3) else 2
def applyB (text : ByteArray) (l : List Spl) : ByteArray := if applyE text l = 0 then ⟨(joinV (piecesFrom text 0 l)).toArray⟩ else ⟨#[]⟩
def RetApply (text : ByteArray) (l : List Spl) (e : Ending) : Prop := e = .returned (.tuple #[.string (applyB text l), .int .i64 (applyE text l)])
theorem ret_unfit {text : ByteArray} {l : List Spl} (h : fitsFrom text.size 0 l = false) : RetApply text l (.returned (.tuple #[.string ⟨#[]⟩, .int .i64 2])) := by
  simp [RetApply, applyB, applyE, h]
theorem ret_long {text : ByteArray} {l : List Spl} (h : fitsFrom text.size 0 l = true) (h2 : 65536 < totalV (piecesFrom text 0 l)) : RetApply text l (.returned (.tuple #[.string ⟨#[]⟩, .int .i64 3])) := by
  have h3 : ¬ totalV (piecesFrom text 0 l) ≤ 65536 := by omega
  simp [RetApply, applyB, applyE, h, h3]
theorem ret_fine {text : ByteArray} {l : List Spl} (h : fitsFrom text.size 0 l = true) (h2 : totalV (piecesFrom text 0 l) ≤ 65536) : RetApply text l (.returned (.tuple #[.string ⟨(joinV (piecesFrom text 0 l)).toArray⟩, .int .i64 0])) := by
  simp [RetApply, applyB, applyE, h, h2]
theorem u8_info : (Try.prog.info? 5).map (fun i => (i.zero, i.size, i.bytes)) = some (some (.int .u8 0), 1, 1) := by kernel_rfl

/-- What holds between two rounds of Apply's second loop. -/
def I2 (text : ByteArray) (l : List Spl) (A : Option Addr) (c n : Nat) (w W : World) (D k : Nat) (X : World) : Prop :=
  Boxed X (W.heap.size + 1 + 1) 3 (.int .i64 (totalV ((piecesFrom text 0 l).take k))) ∧ Boxed X (W.heap.size + 1) 59 (.slice (some ⟨W.heap.size, 0, none⟩) n n) ∧
            X.heap[W.heap.size]? = some (.cells (fillC (piecesFrom text 0 l) k n).toArray 5 (0, 0)) ∧ KKp (W.heap.size + 1 + 1 + 1 + 1) (W.heap.size + 1 + 1 + 1) A c l text w.heap.size X ∧ Below w.heap.size w X ∧ X.heap[D]? = some (.deferred (some []))
def FinR (text : ByteArray) (l : List Spl) (A : Option Addr) (c n : Nat) (w W : World) (D k : Nat) (X Y : World) : Prop :=
  Kept (fun b => b = W.heap.size ∨ b = W.heap.size + 1 + 1) X Y ∧ I2 text l A c n w W D (k + 1) Y

theorem finR {text : ByteArray} {l : List Spl} {A : Option Addr} {c n : Nat} {w W : World} {D k p : Nat} {X : World} (hX : I2 text l A c n w W D k X) (hDX : D < W.heap.size) (hwg : w.heap.size ≤ W.heap.size)
    (hp : totalV ((piecesFrom text 0 l).take k) = p) (hT1 : totalV ((piecesFrom text 0 l).take (k + 1)) = p + (elS text l k).size)
    (hT3 : (fillC (piecesFrom text 0 l) k n).take p ++ Lib.byteCells (elS text l k).data.toList ++ (fillC (piecesFrom text 0 l) k n).drop (p + (elS text l k).size) = fillC (piecesFrom text 0 l) (k + 1) n)
    (q : Nat) (Y : World) (hq : q = p ∨ (elS text l k).size = 0)
    (hY : Y = X.drew.setRow W.heap.size ((fillC (piecesFrom text 0 l) k n).take q ++ Lib.byteCells (elS text l k).data.toList ++ (fillC (piecesFrom text 0 l) k n).drop (q + (elS text l k).size)).toArray)
    (v : Int) (hv : v = (p : Int) + ((elS text l k).size : Int)) :
    FinR text l A c n w W D k X (Y.setCell ⟨W.heap.size + 1 + 1, 0, none⟩ (.int .i64 v)) := by
  subst hY hv
  obtain ⟨h1, h2, h3, h4, h5, h6⟩ := hX
  have hcells : (fillC (piecesFrom text 0 l) k n).take q ++ Lib.byteCells (elS text l k).data.toList ++ (fillC (piecesFrom text 0 l) k n).drop (q + (elS text l k).size) = fillC (piecesFrom text 0 l) (k + 1) n := by
    rcases hq with rfl | hz
    · exact hT3
    · have h0 := hT3
      have he : Lib.byteCells (elS text l k).data.toList = [] := List.eq_nil_of_length_eq_zero (by rw [Lib.byteCells_length]; exact hz)
      rw [he, hz, Nat.add_zero, List.append_nil, List.take_append_drop] at h0 ⊢
      exact h0
  rw [hcells]
  generalize hC : (fillC (piecesFrom text 0 l) (k + 1) n).toArray = C
  have hgo : ∀ b, b ≠ W.heap.size → b ≠ W.heap.size + 1 + 1 → ∀ v, ((X.drew.setRow W.heap.size C).setCell ⟨W.heap.size + 1 + 1, 0, none⟩ v).heap[b]? = X.heap[b]? := fun b hb1 hb2 v =>
    (Below.heap_setCell _ _ _ _ hb2).trans (setRow_other X.drew W.heap.size b C hb1)
  have hbx : Boxed (X.drew.setRow W.heap.size C) (W.heap.size + 1 + 1) 3 (.int .i64 p) := (setRow_other X.drew W.heap.size (W.heap.size + 1 + 1) C (by omega)).trans (by rw [← hp]; exact h1)
  refine ⟨⟨by simp [World.setCell], fun b _ hm => hgo b (fun e => hm (.inl e)) (fun e => hm (.inr e)) _⟩, ?_, (hgo _ (by omega) (by omega) _).trans h2, ?_, ⟨?_, ?_, ?_⟩, ?_, (hgo _ (by omega) (by omega) _).trans h6⟩
  · have := hbx.set (.int .i64 ((p : Int) + ((elS text l k).size : Int)))
    rw [hT1]
    simpa using this
  · rw [Below.heap_setCell _ _ _ _ (show W.heap.size ≠ W.heap.size + 1 + 1 by omega), setRow_heap X.drew W.heap.size _ C 5 (0, 0) h3, hC]
  · exact (World.cell?_of_block (hgo _ (by simp only []; omega) (by simp only []; omega) _)).trans h4.1
  · exact (World.cell?_of_block (hgo _ (by simp only []; omega) (by simp only []; omega) _)).trans h4.2.1
  · exact h4.2.2.keep fun pp hpp => World.cell?_of_block (hgo _ (by omega) (by omega) _)
  · exact (below_setRow (h5.drew) hwg C).setCell (p := ⟨W.heap.size + 1 + 1, 0, none⟩) (by simp; omega) _

set_option maxRecDepth 100000 in
set_option maxHeartbeats 6400000 in
theorem apply_any (A : Option Addr) (c : Nat) (l : List Spl) (text : ByteArray) (w : World) (hl : l.length ≤ 1000000) (hsum : totalV (piecesFrom text 0 l) ≤ 4611686018427387904) (hr : Row w w.heap.size A l) :
    Calls Try.prog 16 #[.string text, .slice A l.length c] w fun e w' => RetApply text l e ∧ Below w.heap.size w w' := by
  by_cases hf : fitsFrom text.size 0 l = true
  · have hc := check_any text.size A c l w hl hr
    rw [show checkV text.size l = 0 by rw [checkV, if_pos ⟨hf, by omega⟩]] at hc
    have HC := Lib.hid hc
    have HF := Lib.hid hf
    clear hf hc
    refine (callsIn_wide (n := 0)).1 (callsIn_of_wp_marks Try.func16 rfl trivial ?_)
    simp only [Try.ntmps16, List.size_toArray, List.length_cons, List.length_nil, Nat.reduceAdd, Nat.reduceSub, Array.replicate_succ, Array.replicate_zero, List.push_toArray, List.append_toArray, List.nil_append, List.cons_append]
    gi_wp2_with (refine ⟨trivial, rfl, ?_⟩; first | (gi_at_call 18; refine (callsIn_wide.2 HC.out).mono ?_; rintro e w1 ⟨rfl, hb1⟩) | (gi_at_call 33; refine (callsIn_wide.2 (pieces_any _ _ _ _ _)).mono ?_; rintro e w2 ⟨rfl, rfl⟩))
    have hs1 := hb1.size
    apply wide_range (gf := 47) (lb := #[.pointer (some ⟨w1.heap.size + 1 + 1, 0, none⟩), .pointer (some ⟨w1.heap.size + 1, 0, none⟩)]) rfl (Go.Proofs.enters_of Try.func47 (by kernel_rfl) rfl)
      (pieces1_hands (w1.heap.size + 1 + 1) (w1.heap.size + 1) A c l text w.heap.size hl HF.out)
      (fun k W => Boxed W w1.heap.size 3 (.int .i64 (totalV ((piecesFrom text 0 l).take k))) ∧ KKp (w1.heap.size + 1 + 1) (w1.heap.size + 1) A c l text w.heap.size W ∧ Below w.heap.size w W)
      (fun b => b = w1.heap.size)
    case hMc => rintro b rfl; simp; omega
    case hI =>
      rintro k W W' ⟨h1, h2, h5⟩ hb
      simp only [World.size_alloc] at hb
      exact ⟨(hb.block _ (by omega)).trans h1, h2.below hb (by omega) (by omega) (by omega), h5.trans (hb.mono (by omega))⟩
    case hKK => exact fun k W h => h.2.1
    case h0 =>
      refine ⟨((Boxed.new w1 3 _).alloc _).alloc _, ⟨?_, ?_, ?_⟩, ((hb1.alloc hs1 _).alloc (by simp; omega) _).alloc (by simp; omega) _⟩
      · rw [World.cell?_alloc_at _ _ _ _ (by simp)]; rfl
      · rw [World.cell?_alloc_past _ _ _ (by simp), World.cell?_alloc_at _ _ _ _ (by simp)]; rfl
      · exact (((hr.below hb1 (Nat.le_refl _)).alloc hs1 _).alloc (by simp; omega) _).alloc (by simp; omega) _
    case hassign => 
      intro lp k W K hK
      gi_wp2
      exact hK
    case hbody =>
      rintro lp k W ⟨h1, h2, h5⟩ hk
      have hc := h1.cell
      have hfz := h1.frozen
      obtain ⟨t1, t2⟩ := total_step (L := piecesFrom text 0 l) (k := k) (by rw [pieces_len]; exact hk)
      change _ = _ + (elS text l k).size at t1
      have ht : totalV ((piecesFrom text 0 l).take k) + (elS text l k).size ≤ 4611686018427387904 := by omega
      have HT := Lib.hid t1
      have HB := Lib.hid h1
      have HK := Lib.hid h2
      clear h1 h2 t1 t2 hk
      gi_wp2
      refine ⟨Kept.setCell _ _ _ _ rfl, ?_, HK.out.set _ (by omega) (by omega) (by omega), h5.setCell (p := ⟨w1.heap.size, 0, none⟩) (by simp; omega) _⟩
      rw [HT.out]
      exact HB.out.set _
    case hdone =>
      rintro D W hD ⟨h1, h2, h5⟩ hd
      simp only [World.size_alloc] at hD
      have hc := h1.cell
      rw [List.take_of_length_le (by rw [pieces_len]; omega)] at hc
      obtain ⟨n, hn⟩ : ∃ n, n = totalV (piecesFrom text 0 l) := ⟨_, rfl⟩
      rw [← hn] at hc
      have HN := Lib.hid hn
      have HK := Lib.hid h2
      clear hn h2 h1
      by_cases hlong : 65536 < n
      · gi_wp2
        refine ⟨by simp, .inl ⟨_, _, rfl, run_takeDeferred hd, ?_⟩⟩
        refine ⟨_, results_tmp2 rfl _ _ _, ?_, h5.trans (below_putObj _ _ _ (by omega))⟩
        have hq := ret_long HF.out (by rw [← HN.out]; exact hlong)
        exact hq
      · have hmk := run_make_bytes (P := Try.prog) 59 5 Try.underlying59 u8_info n (by omega)
        have hws := h5.size
        gi_wp2_with (refine ⟨trivial, rfl, ?_⟩; first | (gi_at_call 33; refine (callsIn_wide.2 (pieces_any _ _ _ _ _)).mono ?_; rintro e w2 ⟨rfl, rfl⟩))
        apply wide_range (gf := 47) (lb := #[.pointer (some ⟨W.heap.size + 1 + 1 + 1 + 1, 0, none⟩), .pointer (some ⟨W.heap.size + 1 + 1 + 1, 0, none⟩)]) rfl (Go.Proofs.enters_of Try.func47 (by kernel_rfl) rfl)
          (pieces1_hands (W.heap.size + 1 + 1 + 1 + 1) (W.heap.size + 1 + 1 + 1) A c l text w.heap.size hl HF.out)
          (I2 text l A c n w W D)
          (fun b => b = W.heap.size ∨ b = W.heap.size + 1 + 1)
        case hMc => rintro b (rfl | rfl) <;> simp <;> omega
        case hI =>
          rintro k X X' ⟨h1, h2, h3, h4, h5, h6⟩ hb
          simp only [World.size_alloc] at hb
          have hDX : D < W.heap.size := (Array.getElem?_eq_some_iff.1 hd).1
          exact ⟨(hb.block _ (by omega)).trans h1, (hb.block _ (by omega)).trans h2, (hb.block _ (by omega)).trans h3, h4.below hb (by omega) (by omega) (by omega), h5.trans (hb.mono (by omega)), (hb.block _ (by omega)).trans h6⟩
        case hKK => exact fun k W h => h.2.2.2.1
        case h0 =>
          have hDX : D < W.heap.size := (Array.getElem?_eq_some_iff.1 hd).1
          refine ⟨?_, ?_, ?_, ⟨?_, ?_, ?_⟩, ((((h5.alloc hws _).alloc (by simp; omega) _).alloc (by simp; omega) _).alloc (by simp; omega) _).alloc (by simp; omega) _, ?_⟩
          · have := ((Boxed.new ((W.alloc (.cells (List.replicate n (Value.int .u8 0)).toArray 5)).alloc (.cells #[.slice (some ⟨W.heap.size, 0, none⟩) n n] 59)) 3 (.int .i64 0)).alloc (.cells #[.string text] 9)).alloc (.cells #[.slice A l.length c] 22)
            simpa [totalV] using this
          · have := (((Boxed.new (W.alloc (.cells (List.replicate n (Value.int .u8 0)).toArray 5)) 59 (.slice (some ⟨W.heap.size, 0, none⟩) n n)).alloc (.cells #[.int .i64 0] 3)).alloc (.cells #[.string text] 9)).alloc (.cells #[.slice A l.length c] 22)
            simpa using this
          · rw [fill_zero]
            rw [Below.heap_alloc _ _ _ (by simp; omega), Below.heap_alloc _ _ _ (by simp; omega), Below.heap_alloc _ _ _ (by simp; omega), Below.heap_alloc _ _ _ (by simp), heap_alloc_new]
            simp
          · rw [World.cell?_alloc_at _ _ _ _ (by simp)]; rfl
          · rw [World.cell?_alloc_past _ _ _ (by simp), World.cell?_alloc_at _ _ _ _ (by simp)]; rfl
          · exact ((((((hr.below h5 (Nat.le_refl _)).alloc hws _).alloc (by simp; omega) _).alloc (by simp; omega) _).alloc (by simp; omega) _).alloc (by simp; omega) _)
          · rw [Below.heap_alloc _ _ _ (by simp; omega), Below.heap_alloc _ _ _ (by simp; omega), Below.heap_alloc _ _ _ (by simp; omega), Below.heap_alloc _ _ _ (by simp; omega), Below.heap_alloc _ _ _ (by omega)]
            exact hd
        case hassign =>
          intro lp k W K hK
          gi_wp2
          exact hK
        case hbody =>
          rintro lp k X hI2 hk
          have HX := Lib.hid hI2
          obtain ⟨h1, h2, h3, h4, h5, h6⟩ := hI2
          have hk' : k < (piecesFrom text 0 l).length := by rw [pieces_len]; exact hk
          obtain ⟨t1, t2⟩ := total_step hk'
          have t3 := fill_step (n := n) hk'
          change _ = _ + (elS text l k).size at t1
          change _ ++ Lib.byteCells (elS text l k).data.toList ++ (fillC _ k n).drop (_ + (elS text l k).size) = _ at t3
          rw [← HN.out] at t2
          have hc1 := h1.cell
          have hf1 := h1.frozen
          have hc2 := h2.cell
          have HT1 := Lib.hid t1
          have HT3 := Lib.hid t3
          have hlen : (fillC (piecesFrom text 0 l) k n).length = n := fill_len (by omega)
          have hps : totalV ((piecesFrom text 0 l).take k) + (elS text l k).size ≤ n := by omega
          have hcp : ∀ (ty q : Nat), q + (elS text l k).size ≤ n → ∀ m, (elS text l k).size ≤ m → (Builtin.copy_ #[59, 9] ty #[.slice (some ⟨W.heap.size, q, none⟩) m m, .string (elS text l k)]).run Try.prog X.drew =
              .ok (goInt (elS text l k).size) (X.drew.setRow W.heap.size ((fillC (piecesFrom text 0 l) k n).take q ++ Lib.byteCells (elS text l k).data.toList ++ (fillC (piecesFrom text 0 l) k n).drop (q + (elS text l k).size)).toArray) := fun ty q hq m hm =>
            Lib.run_copy_row_string X.drew 59 9 ty 5 W.heap.size q m m (elS text l k) (fillC (piecesFrom text 0 l) k n).toArray 5 Try.underlying59 (by kernel_rfl) h3 hm (by simpa [hlen] using hq)
          have HCP := Lib.hid hcp
          generalize hp : totalV ((piecesFrom text 0 l).take k) = p at *
          clear hcp t1 t3 h1 h2 h3 h4 h5 h6 hlen hk hk'
          have hDX : D < W.heap.size := (Array.getElem?_eq_some_iff.1 hd).1
          have hfin := fun q Y hq hY v hv => finR (c := c) (n := n) (w := w) HX.out hDX hws hp (by rw [HT1.out]) HT3.out q Y hq hY v hv
          have hwr : IntKind.i64.wrap ((p : Int) + ((elS text l k).size : Int)) = (p : Int) + ((elS text l k).size : Int) := Go.IntWalk.i64_in _ (by omega)
          have HW := Lib.hid hwr
          clear hwr
          have HFin := Lib.hid hfin
          clear hfin
          by_cases hpn : p < n
          · obtain ⟨Y, hcq, hcx, hfx, HY⟩ : ∃ Y, (Builtin.copy_ #[59, 9] 3 #[.slice (some ⟨W.heap.size, p, none⟩) (n - p) (n - p), .string (elS text l k)]).run Try.prog X.drew = .ok (.int .i64 (elS text l k).size) Y ∧
                Y.cell? ⟨W.heap.size + 1 + 1, 0, none⟩ = some (.int .i64 p) ∧ Y.frozen? ⟨W.heap.size + 1 + 1, 0, none⟩ = false ∧
                Hid (Y = X.drew.setRow W.heap.size ((fillC (piecesFrom text 0 l) k n).take p ++ Lib.byteCells (elS text l k).data.toList ++ (fillC (piecesFrom text 0 l) k n).drop (p + (elS text l k).size)).toArray) :=
              ⟨_, HCP.out 3 p hps (n - p) (by omega), (cell_setRow_other _ _ _ _ (show W.heap.size + 1 + 1 ≠ W.heap.size by omega)).trans hc1, (World.frozen?_of_block (setRow_other X.drew W.heap.size (W.heap.size + 1 + 1) _ (by omega))).trans hf1, rfl⟩
            gi_wp2
            have hmix : Try.prog.follows .mixedOrders = true := by kernel_rfl
            gi_region_with_o (fail)
            all_goals exact ⟨rfl, HFin.out p Y (.inl rfl) HY.out _ (by first | rfl | exact HW.out)⟩
          · have hpe : p = n := by omega
            have hz : (elS text l k).size = 0 := by omega
            have hcq0 := HCP.out 3 0 (by omega) 0 (by omega)
            rw [hz] at hcq0
            subst hpe
            clear hpn
            obtain ⟨Y, hcq, hcx, hfx, HY⟩ : ∃ Y, (Builtin.copy_ #[59, 9] 3 #[.slice (some ⟨W.heap.size, 0, none⟩) 0 0, .string (elS text l k)]).run Try.prog X.drew = .ok (.int .i64 0) Y ∧
                Y.cell? ⟨W.heap.size + 1 + 1, 0, none⟩ = some (.int .i64 p) ∧ Y.frozen? ⟨W.heap.size + 1 + 1, 0, none⟩ = false ∧
                Hid (Y = X.drew.setRow W.heap.size ((fillC (piecesFrom text 0 l) k p).take 0 ++ Lib.byteCells (elS text l k).data.toList ++ (fillC (piecesFrom text 0 l) k p).drop (0 + 0)).toArray) :=
              ⟨_, hcq0, (cell_setRow_other _ _ _ _ (show W.heap.size + 1 + 1 ≠ W.heap.size by omega)).trans hc1, (World.frozen?_of_block (setRow_other X.drew W.heap.size (W.heap.size + 1 + 1) _ (by omega))).trans hf1, rfl⟩
            have HZ := Lib.hid hz
            have hw0 : IntKind.i64.wrap ((p : Int) + 0) = (p : Int) + 0 := Go.IntWalk.i64_in _ (by omega)
            have HW0 := Lib.hid hw0
            clear hz hcq0 hw0
            gi_wp2
            have hmix : Try.prog.follows .mixedOrders = true := by kernel_rfl
            gi_region_with_o (fail)
            all_goals exact ⟨rfl, HFin.out 0 Y (.inr HZ.out) (by rw [HZ.out]; exact HY.out) _ (by rw [HZ.out]; first | rfl | exact HW0.out | (simp; done) | (rw [Int.natCast_zero, Int.add_zero]; exact HW0.out) | omega)⟩
        case hdone =>
          rintro D2 X hD2 ⟨h1, h2, h3, h4, h5, h6⟩ hd2
          simp only [World.size_alloc] at hD2
          have hDX : D < W.heap.size := (Array.getElem?_eq_some_iff.1 hd).1
          have hN := HN.out
          have hfa : fillC (piecesFrom text 0 l) (2 * l.length + 1) n = Lib.byteCells (joinV (piecesFrom text 0 l)) := by
            rw [hN, ← pieces_len text l 0]; exact fill_all _
          rw [hfa] at h3
          have hnl : n = (joinV (piecesFrom text 0 l)).length := by rw [hN, join_len]
          have hcv : ∀ ty : Nat, ty = ty → (convert 59 9 (.slice (some ⟨W.heap.size, 0, none⟩) n n)).run Try.prog X = .ok (.string ⟨(joinV (piecesFrom text 0 l)).toArray⟩) X := fun _ _ => by
            have := run_convert_bytes_back (P := Try.prog) X 59 9 5 ⟨W.heap.size, 0, none⟩ n (joinV (piecesFrom text 0 l)) Try.underlying59 Try.underlying5 Try.underlying9 (fun j hj => by
              rw [Addr.add_lit, Nat.zero_add, cell_of_row _ _ _ _ _ _ h3]
              simp [Lib.byteCells, List.getElem?_eq_getElem hj])
            rw [← hnl] at this
            exact this
          have hcv2 := hcv 0 rfl
          have hc2 := h2.cell
          have HNL := Lib.hid hnl
          clear hcv hN hfa hnl h1 h2 h3 h4
          gi_wp2
          refine ⟨by simp, .inl ⟨_, _, rfl, run_takeDeferred hd2, ?_⟩⟩
          refine ⟨by simp, .inl ⟨_, _, rfl, run_takeDeferred (b := D) (ds := []) ((World.putObj_heap_other (by omega)).trans h6), ?_⟩⟩
          refine ⟨_, results_tmp2 rfl _ _ _, ?_, (h5.trans (below_putObj _ _ _ (by omega))).trans (below_putObj _ _ _ (by omega))⟩
          have hq := ret_fine HF.out (by rw [← HN.out]; omega)
          exact hq
  · have hc := check_any text.size A c l w hl hr
    have hf' : fitsFrom text.size 0 l = false := by simpa using hf
    rw [checkV_bad hf'] at hc
    have HC := Lib.hid hc
    have HF := Lib.hid hf'
    clear hf hf' hc
    go_enter Try.func16, Try.ntmps16
    go_wp2_with (go_at_call 18; refine HC.out.mono ?_; rintro e w1 ⟨rfl, hb1⟩)
    go_ret2
    exact ⟨ret_unfit HF.out, hb1⟩
end Go.Proofs.Ytfflfbnnohlipaa
