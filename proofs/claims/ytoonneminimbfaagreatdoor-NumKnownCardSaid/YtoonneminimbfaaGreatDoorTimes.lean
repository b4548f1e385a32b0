/- emendref01.Times. -/
import Derived.Test.YtoonneminimbfaaGreatDoorTrim
namespace Go.Proofs.YtoonneminimbfaaGreatDoor
open Go.RowKit
set_option linter.unusedVariables false
set_option linter.unusedSimpArgs false

def uv (z : List Nat) : Array Value := (z.map fun (x : Nat) => Value.int .u64 (x : Int)).toArray
def ArrU (w : World) (g : Nat) (z : List Nat) : Prop := w.heap[g]? = some (.cells (uv z) 30 (0, 0))
theorem ArrU.at_ {w : World} {g k x : Nat} {z : List Nat} (h : ArrU w g z) (hx : z[k]? = some x) : w.cell? ⟨g, k, none⟩ = some (.int .u64 x) := by
  rw [cell_of_row _ _ _ _ _ _ h]
  simp [uv, List.getElem?_map, hx]
theorem heap_setCell_at {w : World} {g o : Nat} {c : Array Value} {e : TypeId} {fz : Nat × Nat} {v : Value} (h : w.heap[g]? = some (.cells c e fz)) : (w.setCell ⟨g, o, none⟩ v).heap[g]? = some (.cells (c.setIfInBounds o v) e fz) := by
  simp only [World.setCell, Array.getElem?_modify]
  simp [h]
theorem ArrU.set {w : World} {g : Nat} {z : List Nat} (h : ArrU w g z) (k d : Nat) : ArrU (w.setCell ⟨g, k, none⟩ (.int .u64 (d : Int))) g (z.set k d) := by
  unfold ArrU at *
  rw [heap_setCell_at h]
  simp [uv, List.map_set]
theorem ArrU.thaw {w : World} {g : Nat} {z : List Nat} (h : ArrU w g z) (k : Nat) : w.frozen? ⟨g, k, none⟩ = false := by
  unfold ArrU at h
  unfold World.frozen?
  simp only [h]
  simp
theorem ArrU.drewN {w : World} {g : Nat} {z : List Nat} (h : ArrU w g z) (k : Nat) : ArrU (w.drewN k) g z := h
theorem ArrU.row {w : World} {g : Nat} {z : List Nat} (h : ArrU w g z) : RowOf uc 1 w w.heap.size (some ⟨g, 0, none⟩) z := by
  intro _
  have hlt : g < w.heap.size := (Array.getElem?_eq_some_iff.1 h).1
  refine ⟨g, 0, rfl, hlt, fun i x hx j v hv => ?_⟩
  have hj : j = 0 := by
    rcases Nat.eq_zero_or_pos j with h | h
    · exact h
    · rw [List.getElem?_eq_none (by simp [uc]; omega)] at hv; cases hv
  subst hj
  simp [uc] at hv
  subst hv
  have := h.at_ hx
  simpa using this
set_option maxRecDepth 100000 in
theorem run_make_u64 (n : Nat) (hn : n ≤ 2000) (k : Int) (hk : k = n) (W : World) :
    (Instr.makeSlice 71 (.int .i64 k) (.int .i64 k)).run Tryz.prog W = .ok (.slice (some ⟨W.heap.size, 0, none⟩) n n) (W.alloc (.cells (uv (List.replicate n 0)) 30)) := by
  subst hk
  obtain ⟨i, hi0, hz, hs, hb⟩ := info_split info30
  have hr := run_make (P := Tryz.prog) W 71 30 i _ Tryz.underlying71 hi0 hz .i64 .i64 n n (by omega) (by omega) (by rw [hb]; omega) (by omega)
  simp only [Int.toNat_natCast, hs, Nat.mul_one] at hr
  rw [hr]
  congr 3
  apply Array.toList_inj.1
  rw [show (Value.int .u64 0).cells = #[.int .u64 0] from rfl, toList_madeCells_one]
  simp [uv]

theorem below_dr {w w' : World} (h : Below w.heap.size w w') : Below w.heap.size w w'.drew := ⟨h.os, h.tape, h.output, h.size, h.block⟩
structure OInv (w wr : World) (N : Nat) (a b : List Nat) (i : Nat) (z : List Nat) : Prop where
  arr : ArrU wr N z
  len : z.length = a.length + b.length
  dig : ∀ x ∈ z, x < 65536
  zero : ∀ k x, i + b.length ≤ k → z[k]? = some x → x = 0
  val : vl z = vl (a.take i) * vl b
  bel : Below w.heap.size w wr
structure IInv (w wr : World) (N : Nat) (a b : List Nat) (i ai c j : Nat) (z : List Nat) : Prop where
  arr : ArrU wr N z
  len : z.length = a.length + b.length
  dig : ∀ x ∈ z, x < 65536
  carry : c < 65536
  zero : ∀ k x, i + b.length ≤ k → z[k]? = some x → x = 0
  val : vl z + 65536 ^ (i + j) * c = vl (a.take i) * vl b + 65536 ^ i * (ai * vl (b.take j))
  bel : Below w.heap.size w wr

theorem OInv.begin_ {w wr : World} {N i ai : Nat} {a b z : List Nat} (h : OInv w wr N a b i z) : IInv w wr N a b i ai 0 0 z where
  arr := h.arr
  len := h.len
  dig := h.dig
  carry := by decide
  zero := h.zero
  val := by rw [h.val]; simp [vl]
  bel := h.bel
theorem mem_set {z : List Nat} {k d : Nat} (h : ∀ x ∈ z, x < 65536) (hd : d < 65536) : ∀ x ∈ z.set k d, x < 65536 := by
  intro x hx
  rcases List.mem_or_eq_of_mem_set hx with h1 | h1
  · exact h x h1
  · subst h1; exact hd
theorem IInv.step {w wr wq : World} {N i ai c j zx bj v : Nat} {a b z : List Nat} (h : IInv w wr N a b i ai c j z) (hz : z[i + j]? = some zx) (hbj : b[j]? = some bj) (hlt : j < b.length)
    (hai : ai < 65536) (hb : bj < 65536) (hv : v = zx + ai * bj + c) (harr : ArrU wq N (z.set (i + j) (v % 65536))) (hbel : Below w.heap.size w wq) : IInv w wq N a b i ai (v / 65536) (j + 1) (z.set (i + j) (v % 65536)) where
  arr := harr
  len := by rw [List.length_set]; exact h.len
  dig := mem_set h.dig (Nat.mod_lt _ (by decide))
  carry := by
    have h1 : zx < 65536 := h.dig zx (List.mem_of_getElem? hz)
    have h2 := h.carry
    have h3 : ai * bj ≤ 65535 * 65535 := Nat.mul_le_mul (by omega) (by omega)
    omega
  zero := fun k x hk hx => by
    rw [List.getElem?_set_ne (by omega)] at hx
    exact h.zero k x hk hx
  val := by
    have e1 := vl_set (v % 65536) hz
    have e0 := h.val
    have et := vl_take hbj
    obtain ⟨P, hP⟩ : ∃ P, 65536 ^ (i + j) = P := ⟨_, rfl⟩
    have e2 : P * (v % 65536) + 65536 * P * (v / 65536) = P * v := by
      rw [show 65536 * P * (v / 65536) = P * (65536 * (v / 65536)) by ac_rfl, ← Nat.mul_add, Nat.mod_add_div]
    have e3 : P * v = P * zx + P * (ai * bj) + P * c := by rw [hv, Nat.mul_add, Nat.mul_add]
    have e4 : 65536 ^ i * (ai * (vl (b.take j) + 65536 ^ j * bj)) = 65536 ^ i * (ai * vl (b.take j)) + P * (ai * bj) := by
      rw [← hP, Nat.pow_add, Nat.mul_add, Nat.mul_add]; congr 1; ac_rfl
    rw [et, e4, show i + (j + 1) = i + j + 1 by omega, Nat.pow_succ, hP, Nat.mul_comm P 65536]
    rw [hP] at e0 e1
    generalize P * (v % 65536) = x1 at *
    generalize 65536 * P * (v / 65536) = x2 at *
    generalize P * zx = x3 at *
    generalize P * (ai * bj) = x4 at *
    generalize P * c = x5 at *
    omega
  bel := hbel
theorem IInv.finish {w wr wq : World} {N i ai c zx : Nat} {a b z : List Nat} (h : IInv w wr N a b i ai c b.length z) (ha : a[i]? = some ai) (hz : z[i + b.length]? = some zx)
    (harr : ArrU wq N (z.set (i + b.length) c)) (hbel : Below w.heap.size w wq) : OInv w wq N a b (i + 1) (z.set (i + b.length) c) where
  arr := harr
  len := by rw [List.length_set]; exact h.len
  dig := mem_set h.dig h.carry
  zero := fun k x hk hx => by
    rw [List.getElem?_set_ne (by omega)] at hx
    exact h.zero k x (by omega) hx
  val := by
    have e1 := vl_set c hz
    have hz0 : zx = 0 := h.zero _ zx (Nat.le_refl _) hz
    have e0 := h.val
    rw [List.take_length] at e0
    rw [hz0, Nat.mul_zero] at e1
    rw [vl_take ha, Nat.add_mul, show 65536 ^ i * ai * vl b = 65536 ^ i * (ai * vl b) by ac_rfl]
    omega
  bel := hbel

/-- A call hands back a number. -/
def RetBig (n : Nat) (e : Ending) (w : World) : Prop := ∃ A c, e = .returned (.slice A (dg16 n).length c) ∧ (dg16 n).length ≤ c ∧ RowOf uc 1 w w.heap.size A (dg16 n)

set_option maxRecDepth 100000 in
set_option maxHeartbeats 3200000 in
theorem times_any (A B : Option Addr) (ca cb : Nat) (a b : List Nat) (w : World) (ha : a.length ≤ 1000) (hb : b.length ≤ 1000) (hA : RowOf uc 1 w w.heap.size A a) (hB : RowOf uc 1 w w.heap.size B b) (ha2 : ∀ x ∈ a, x < 65536) (hb2 : ∀ x ∈ b, x < 65536) :
    Calls Tryz.prog 58 #[.slice A a.length ca, .slice B b.length cb] w fun e w' => RetBig (vl a * vl b) e w' ∧ Below w.heap.size w w' := by
  have HA := Lib.hid hA
  have HB := Lib.hid hB
  have HA2 := Lib.hid ha2
  have HB2 := Lib.hid hb2
  have hmk := run_make_u64 (a.length + b.length) (by omega) ((a.length : Int) + b.length) (by omega)
  clear hA hB ha2 hb2
  go_enter Tryz.func58, Tryz.ntmps58
  go_wp2_with fail
  go_loopw [6] (fun iv wr => ∃ (i : Nat) (z : List Nat), i ≤ a.length ∧ iv = .int .i64 i ∧ OInv w wr w.heap.size a b i z) (fun iv _ => a.length - (intOf iv).toNat)
  case atStart =>
    refine ⟨0, List.replicate (a.length + b.length) 0, Nat.zero_le _, rfl, ⟨heap_alloc_new w _, by simp, fun x hx => by rw [List.mem_replicate] at hx; omega, fun k x _ hx => ?_, ?_, (Below.refl _ _).alloc (Nat.le_refl _) _⟩⟩
    · have := List.mem_of_getElem? hx; rw [List.mem_replicate] at this; exact this.2
    · rw [vl_zeros _ (fun x hx => by rw [List.mem_replicate] at hx; exact hx.2)]; simp [vl]
  case round =>
    obtain ⟨i, z, hi, rfl, hO⟩ := hrel
    have HO := Lib.hid hO
    clear hO
    by_cases hlt : i < a.length
    · obtain ⟨ai, hai⟩ := get_some hlt
      have hai2 := HA2.out ai (List.mem_of_getElem? hai)
      have HAI := Lib.hid hai
      clear hai
      go_wp2_with fail
      go_loopw [7, 8] (fun cv jv wr => ∃ (c j : Nat) (z : List Nat), j ≤ b.length ∧ cv = .int .u64 c ∧ jv = .int .i64 j ∧ IInv w wr w.heap.size a b i ai c j z) (fun _ jv _ => b.length - (intOf jv).toNat)
      case atStart => exact ⟨0, 0, z, Nat.zero_le _, rfl, rfl, HO.out.begin_⟩
      case round =>
        obtain ⟨c, j, y, hj, rfl, rfl, hI⟩ := hrel
        have HI := Lib.hid hI
        have hcy := hI.carry
        have hln := hI.len
        clear hI
        by_cases hjl : j < b.length
        · obtain ⟨bj, hbj⟩ := get_some hjl
          have hbj2 := HB2.out bj (List.mem_of_getElem? hbj)
          obtain ⟨yx, hyx⟩ := get_some (show i + j < y.length by omega)
          have hyx2 := HI.out.dig yx (List.mem_of_getElem? hyx)
          have hcell := HI.out.arr.at_ hyx
          obtain ⟨ba, oa, rfl, _, hca⟩ := row_uc (HA.out.below HI.out.bel (Nat.le_refl _)) HAI.out
          obtain ⟨bb, ob, rfl, _, hcb⟩ := row_uc (HB.out.below HI.out.bel (Nat.le_refl _)) hbj
          have hmul : ai * bj ≤ 65535 * 65535 := Nat.mul_le_mul (by omega) (by omega)
          obtain ⟨p, hp⟩ : ∃ p, ai * bj = p := ⟨_, rfl⟩
          have hpc : (ai : Int) * (bj : Int) = (p : Int) := by rw [← hp]; push_cast; rfl
          have HY := Lib.hid hyx
          have HBJ := Lib.hid hbj
          have HP := Lib.hid hp
          rw [hp] at hmul
          clear hyx hbj hp
          obtain ⟨m, hm⟩ : ∃ m, i + j = m := ⟨_, rfl⟩
          have hm2 : (i : Int) + (j : Int) = (m : Int) := by omega
          have hm3 : IntKind.i64.wrap ((i : Int) + (j : Int)) = (m : Int) := by rw [hm2]; simp only [IntKind.wrap, IntKind.bits, IntKind.signed]; simp; omega
          rw [hm] at hcell
          have g0 : (0 : Int) ≤ (m : Int) := by omega
          have g1 : (m : Int) < ((a.length + b.length : Nat) : Int) := by omega
          have g2 : (i : Int) < (a.length : Int) := by omega
          have g3 : (j : Int) < (b.length : Int) := by omega
          have g4 : (0 : Int) ≤ (i : Int) := by omega
          have g5 : (0 : Int) ≤ (j : Int) := by omega
          have e1 : IntKind.u64.wrap ((ai : Int) * (bj : Int)) = (p : Int) := by rw [hpc]; simp only [IntKind.wrap, IntKind.bits, IntKind.signed]; simp; omega
          obtain ⟨q, hq⟩ : ∃ q, yx + p = q := ⟨_, rfl⟩
          have hq1 : (yx : Int) + (p : Int) = (q : Int) := by omega
          have e2 : IntKind.u64.wrap ((yx : Int) + (p : Int)) = (q : Int) := by rw [hq1]; simp only [IntKind.wrap, IntKind.bits, IntKind.signed]; simp; omega
          obtain ⟨v, hv⟩ : ∃ v, q + c = v := ⟨_, rfl⟩
          have hv1 : (q : Int) + (c : Int) = (v : Int) := by omega
          have e3 : IntKind.u64.wrap ((q : Int) + (c : Int)) = (v : Int) := by rw [hv1]; simp only [IntKind.wrap, IntKind.bits, IntKind.signed]; simp; omega
          obtain ⟨r, hr⟩ : ∃ r, v % 65536 = r := ⟨_, rfl⟩
          have hr1 : (v : Int) % 65536 = (r : Int) := by omega
          obtain ⟨t, ht⟩ : ∃ t, v / 65536 = t := ⟨_, rfl⟩
          have ht1 : (v : Int) / 65536 = (t : Int) := by omega
          have HQ := Lib.hid hq
          have HV := Lib.hid hv
          have HR := Lib.hid hr
          have HT := Lib.hid ht
          have HM := Lib.hid hm
          clear hq hv hr ht hm
          have hfz : wr.frozen? ⟨w.heap.size, m, none⟩ = false := HI.out.arr.thaw m
          go_wp2_with fail
          go_region
          go_wp2_with fail
          refine ⟨⟨t, j + 1, y.set (i + j) r, by omega, rfl, by go_num, ?_⟩, by simp [intOf]; omega⟩
          have hs := IInv.step (v := v) (wq := (wr.setCell ⟨w.heap.size, m, none⟩ (.int .u64 (r : Int))).drew) HI.out HY.out HBJ.out hjl hai2 hbj2 (by rw [← HV.out, ← HQ.out, ← HP.out]) (by rw [HR.out, HM.out]; exact HI.out.arr.set m r) (below_dr (HI.out.bel.setCell (p := ⟨w.heap.size, m, none⟩) (Nat.le_refl _) _))
          rw [HT.out, HR.out] at hs
          exact hs
        · obtain rfl : j = b.length := by omega
          obtain ⟨yx, hyx⟩ := get_some (show i + b.length < y.length by omega)
          obtain ⟨m, hm⟩ : ∃ m, i + b.length = m := ⟨_, rfl⟩
          have hm2 : (i : Int) + (b.length : Int) = (m : Int) := by omega
          have hcell := HI.out.arr.at_ hyx
          rw [hm] at hcell
          have hfz : wr.frozen? ⟨w.heap.size, m, none⟩ = false := HI.out.arr.thaw m
          have g0 : (0 : Int) ≤ (m : Int) := by omega
          have g1 : (m : Int) < ((a.length + b.length : Nat) : Int) := by omega
          have HY := Lib.hid hyx
          have HM := Lib.hid hm
          clear hyx hm
          go_wp2_with fail
          refine ⟨⟨i + 1, y.set (i + b.length) c, by omega, by go_num, ?_⟩, by simp [intOf]; omega⟩
          exact IInv.finish HI.out HAI.out HY.out (by rw [HM.out]; exact HI.out.arr.set m c) (HI.out.bel.setCell (p := ⟨w.heap.size, m, none⟩) (Nat.le_refl _) _)
    · obtain rfl : i = a.length := by omega
      have hln := HO.out.len
      have HT := Lib.hid (trim_any (some ⟨w.heap.size, 0, none⟩) (a.length + b.length) z wr (by omega) (by omega) HO.out.arr.row)
      rw [hln] at HT
      clear hln
      go_wp2_with (go_at_call 87; refine HT.out.mono ?_; rintro e w' ⟨⟨k, hk, rfl, hk1, hk2⟩, rfl⟩)
      go_ret
      refine ⟨⟨some ⟨w.heap.size, 0, none⟩, a.length + b.length, ?_⟩, HO.out.bel⟩
      have hval : vl (z.take k) = vl a * vl b := by rw [vl_cut hk2, HO.out.val, List.take_length]
      have hlen2 : (z.take k).length = k := by rw [List.length_take, HO.out.len]; omega
      have hdg : dg16 (vl a * vl b) = z.take k := by
        rw [← hval]
        refine dg16_vl _ (fun x hx => HO.out.dig x (List.mem_of_mem_take hx)) fun x hx => ?_
        rw [hlen2, List.getElem?_take] at hx
        split at hx
        · exact hk1 x hx (by omega)
        · cases hx
      rw [hdg, hlen2]
      exact ⟨rfl, hk, HO.out.arr.row.take k⟩

theorem retBig_own {n : Nat} {e : Ending} {B : Nat} {w : World} (h : ∃ v, e = .returned v ∧ Own uc 1 30 w B v (dg16 n)) : RetBig n e w := by
  obtain ⟨v, rfl, h⟩ := h
  obtain ⟨A, c, rfl, hr⟩ := h.row uc_len
  refine ⟨A, c, rfl, ?_, hr⟩
  rcases h.2 with ⟨h1, h2⟩ | ⟨g, cap, cur, hv, hB, hgg, hcap, hm, hsz, htake⟩
  · rw [h2]; exact Nat.zero_le _
  · cases hv; omega
end Go.Proofs.YtoonneminimbfaaGreatDoor
