/- emendref01: whole numbers as rows of digits to the base 65536: Of, trim. emendref01.trim. emendref01.Times. emendref01.Mul. emendref01.Cmp. -/
import Derived.Test.YtclbmmiedihepaaGreatDoorQB
import Derived.Test.YtclbmmiedihepaaGreatDoorQD
namespace Go.Proofs.YtclbmmiedihepaaGreatDoor
section
open Go.RowKit
set_option linter.unusedVariables false
set_option linter.unusedSimpArgs false
def uc (x : Nat) : List Value := [.int .u64 x]
theorem uc_len (x : Nat) : (uc x).length = 1 := rfl
theorem uc_one (x : Nat) : ∀ u ∈ uc x, u.oneCell' = true := by intro u hu; simp [uc] at hu; subst hu; rfl
theorem info30 : (Tryz.prog.info? 86).map (fun i => (i.zero, i.size, i.bytes)) = some (some (.int .u64 0), 1, 8) := by kernel_rfl
theorem info_split {i : Option TypeInfo} {z : Value} {s b : Nat} (h : i.map (fun i => (i.zero, i.size, i.bytes)) = some (some z, s, b)) : ∃ j, i = some j ∧ j.zero = some z ∧ j.size = s ∧ j.bytes = b := by
 cases i with
 | none => cases h
 | some j => simp at h; exact ⟨j, rfl, h.1, h.2.1, h.2.2⟩

/-- The digits, the least first; none of 0. -/
def dg16 (n : Nat) : List Nat := if n = 0 then [] else n % 65536 :: dg16 (n / 65536)
termination_by n
theorem dg16_zero : dg16 0 = [] := by rw [dg16]; rfl
theorem dg16_pos {n : Nat} (h : n ≠ 0) : dg16 n = n % 65536 :: dg16 (n / 65536) := by rw [dg16, if_neg h]
theorem dg16_len : ∀ (k n : Nat), n < 65536 ^ k → (dg16 n).length ≤ k := by
 intro k
 induction k with
 | zero => intro n h; have : n = 0 := by simpa using h
           subst this; rw [dg16_zero]; simp
 | succ k ih =>
  intro n h
  by_cases h0 : n = 0
  · subst h0; rw [dg16_zero]; simp
  · rw [dg16_pos h0]
    have := ih (n / 65536) (by rw [Nat.div_lt_iff_lt_mul (by omega)]; rw [Nat.pow_succ] at h; exact h)
    simp; exact this

set_option maxRecDepth 100000 in
set_option maxHeartbeats 1600000 in
theorem of_any (n : Nat) (hn : n < 18446744073709551616) (w : World) :
  Calls Tryz.prog 88 #[.int .u64 n] w fun e w' => (∃ v, e = .returned v ∧ Own uc 1 86 w' w.heap.size v (dg16 n)) ∧ Below w.heap.size w w' := by
 obtain ⟨i30, hi30, hz0, hz1, hz2⟩ := info_split info30
 have HN4 := Lib.hid (dg16_len 4 n (by simpa using hn))
 go_enter Tryz.func88, Tryz.ntmps88
 go_wp2_with fail
 go_loopw [0, 3] (fun x v wr => ∃ (m : Nat) (l : List Nat), m ≤ n ∧ x = .int .u64 m ∧ Own uc 1 86 wr w.heap.size v l ∧ dg16 n = l ++ dg16 m ∧ Below w.heap.size w wr) (fun x _ _ => (intOf x).toNat)
 case atStart => exact ⟨n, [], Nat.le_refl _, rfl, Own.nil_, rfl, Below.refl _ _⟩
 case round =>
  obtain ⟨m, l, hm, rfl, hown, hl, hb⟩ := hrel
  have HO := Lib.hid hown
  have HB := Lib.hid hb
  have hbs := hb.size
  have HL := Lib.hid hl
  by_cases h0 : m = 0
  · subst h0
    have HE := Lib.hid (show dg16 n = l by rw [HL.out, dg16_zero, List.append_nil])
    clear hown hl hb
    go_wp2
    go_ret
    exact ⟨⟨_, rfl, by rw [HE.out]; exact HO.out⟩, HB.out⟩
  · have HP := Lib.hid (dg16_pos h0)
    have hlen : l.length ≤ 4 := by
     have := HN4.out
     rw [HL.out, List.length_append] at this; omega
    have HLN := Lib.hid hlen
    have hpos : (m : Int) > 0 := by omega
    clear hown hl hb hlen
    go_wp2_with (at_builtin; go_must (refine wpList_append_one (cs := uc) rfl _ _ 115 rfl 86 i30 _ 8 Tryz.underlying115 hi30 hz0 hz1 hz2 rfl (by decide) uc_len uc_one _ w.heap.size _ u3 l (m % 65536) _ (by simp [uc]) (by rfl) (by rfl) (by rfl) HO.out (by unfold maxLen; have := HLN.out; omega) (by have := HLN.out; omega) hbs ?_); intro v' w' hown' hg hat)
    go_roundw
    case rel =>
     refine ⟨m / 65536, l ++ [m % 65536], by omega, by go_num, hown', by rw [HL.out, HP.out, List.append_assoc]; rfl, below_grown HB.out HO.out hbs hg⟩
    case measure => simp [intOf]; omega
end

section
open Go.RowKit
set_option linter.unusedVariables false
set_option linter.unusedSimpArgs false
theorem row_uc {w : World} {B : Nat} {A : Option Addr} {l : List Nat} {k x : Nat} (h : RowOf uc 1 w B A l) (hx : l[k]? = some x) :
  ∃ b off, A = some ⟨b, off, none⟩ ∧ b < B ∧ w.cell? ⟨b, off + k, none⟩ = some (.int .u64 x) := by
 have hlt : k < l.length := by
  rcases Nat.lt_or_ge k l.length with h | h
  · exact h
  · rw [List.getElem?_eq_none h] at hx; cases hx
 obtain ⟨b, off, e, hb, hc⟩ := h (by omega)
 have := hc k x hx 0 _ rfl
 exact ⟨b, off, e, hb, by simpa using this⟩

set_option maxRecDepth 100000 in
set_option maxHeartbeats 1600000 in
theorem trim_any (A : Option Addr) (c : Nat) (l : List Nat) (w : World) (hl : l.length ≤ 1000000) (hlc : l.length ≤ c) (hr : RowOf uc 1 w w.heap.size A l) :
  Calls Tryz.prog 108 #[.slice A l.length c] w fun e w' => (∃ k, k ≤ l.length ∧ e = .returned (.slice A k c) ∧ (∀ x, l[k - 1]? = some x → 0 < k → x ≠ 0) ∧ (∀ i x, k ≤ i → l[i]? = some x → x = 0)) ∧ w = w' := by
 have HR := Lib.hid hr
 go_enter Tryz.func108, Tryz.ntmps108
 go_wp2_with fail
 go_loop [0] (fun v => ∃ (k : Nat), k ≤ l.length ∧ v = .slice A k c ∧ (∀ i x, k ≤ i → l[i]? = some x → x = 0)) (fun v => match v with | .slice _ k _ => k | _ => 0)
 case atStart => exact ⟨l.length, Nat.le_refl _, rfl, fun i x hi hx => by rw [List.getElem?_eq_none hi] at hx; cases hx⟩
 case round =>
  obtain ⟨k, hk, rfl, hz⟩ := hrel
  have HZ := Lib.hid hz
  clear hz hr
  by_cases h0 : k = 0
  · subst h0
    go_wp2_with fail
    go_ret
    exact ⟨⟨0, Nat.zero_le _, rfl, fun x _ h => by omega, HZ.out⟩, rfl⟩
  · obtain ⟨p, rfl⟩ : ∃ p, k = p + 1 := ⟨k - 1, by omega⟩
    obtain ⟨x, hx⟩ := get_some (show p < l.length by omega)
    obtain ⟨b, off, rfl, hbl, hc⟩ := row_uc HR.out hx
    have HX := Lib.hid hx
    have e1 : (((p + 1 : Nat) : Int)) - 1 = (p : Int) := by omega
    have e2 : ((p + 1 : Nat) : Int) > 0 := by omega
    clear hx
    by_cases hx0 : x = 0
    · have hx1 : ((x : Int) == 0) = true := by simp [hx0]
      go_wp2_with fail
      refine ⟨⟨p, by omega, rfl, fun i y hi hy => ?_⟩, by simp⟩
      rcases Nat.lt_or_ge p i with h | h
      · exact HZ.out i y h hy
      · obtain rfl : i = p := by omega
        rw [HX.out] at hy; cases hy; exact hx0
    · have hx1 : ((x : Int) == 0) = false := by simp [hx0]
      go_wp2_with fail
      go_ret
      exact ⟨⟨p + 1, hk, rfl, fun y hy _ => by rw [show p + 1 - 1 = p by omega, HX.out] at hy; cases hy; exact hx0, HZ.out⟩, rfl⟩

/-! ### What rows of digits are worth -/
def vl : List Nat → Nat
 | [] => 0
 | d :: r => d + 65536 * vl r
theorem vl_dg16 (n : Nat) : vl (dg16 n) = n := by
 induction n using Nat.strongRecOn with
 | _ n ih =>
  by_cases h : n = 0
  · subst h; rw [dg16_zero]; rfl
  · rw [dg16_pos h, vl, ih (n / 65536) (by omega)]; omega
theorem vl_append (a b : List Nat) : vl (a ++ b) = vl a + 65536 ^ a.length * vl b := by
 induction a with
 | nil => simp [vl]
 | cons x a ih =>
  rw [List.cons_append, vl, ih, vl, List.length_cons, Nat.pow_succ, Nat.mul_add, Nat.mul_comm (65536 ^ a.length) 65536, Nat.mul_assoc]
  omega
theorem vl_snoc (a : List Nat) (d : Nat) : vl (a ++ [d]) = vl a + 65536 ^ a.length * d := by rw [vl_append]; simp [vl]
theorem vl_take {l : List Nat} {k x : Nat} (hx : l[k]? = some x) : vl (l.take (k + 1)) = vl (l.take k) + 65536 ^ k * x := by
 have hlt : k < l.length := by
  rcases Nat.lt_or_ge k l.length with h | h
  · exact h
  · rw [List.getElem?_eq_none h] at hx; cases hx
 rw [take_snoc hx, vl_snoc, List.length_take, Nat.min_eq_left (by omega)]
theorem vl_zeros (l : List Nat) (h : ∀ x ∈ l, x = 0) : vl l = 0 := by
 induction l with
 | nil => rfl
 | cons x l ih => rw [vl, h x (List.mem_cons_self ..), ih (fun y hy => h y (List.mem_cons_of_mem _ hy))]
theorem vl_cut {l : List Nat} {k : Nat} (h : ∀ i x, k ≤ i → l[i]? = some x → x = 0) : vl (l.take k) = vl l := by
 conv => rhs; rw [← List.take_append_drop k l]
 rw [vl_append, vl_zeros (l.drop k), Nat.mul_zero, Nat.add_zero]
 intro x hx
 obtain ⟨i, hi⟩ := List.getElem?_of_mem hx
 rw [List.getElem?_drop] at hi
 exact h (k + i) x (by omega) hi
theorem vl_set {l : List Nat} {k x : Nat} (d : Nat) (hx : l[k]? = some x) : vl (l.set k d) + 65536 ^ k * x = vl l + 65536 ^ k * d := by
 induction l generalizing k with
 | nil => simp at hx
 | cons y l ih =>
  cases k with
  | zero => simp at hx; subst hx; simp [vl]; omega
  | succ k =>
   simp at hx
   have := ih hx
   rw [List.set_cons_succ, vl, vl, Nat.pow_succ, Nat.mul_comm (65536 ^ k) 65536, Nat.mul_assoc, Nat.mul_assoc]
   omega
/-- A row of digits whose last one is not 0 is the number's own. -/
theorem dg16_vl (l : List Nat) (h1 : ∀ x ∈ l, x < 65536) (h2 : ∀ x, l[l.length - 1]? = some x → x ≠ 0) : dg16 (vl l) = l := by
 induction l with
 | nil => rw [vl, dg16_zero]
 | cons x l ih =>
  have hx := h1 x (List.mem_cons_self ..)
  have h3 : ∀ y, l[l.length - 1]? = some y → y ≠ 0 := by
   intro y hy
   refine h2 y ?_
   cases l with
   | nil => simp at hy
   | cons z l => simpa using hy
  have hi := ih (fun y hy => h1 y (List.mem_cons_of_mem _ hy)) h3
  have hne : vl (x :: l) ≠ 0 := by
   intro e
   rw [vl] at e
   have e0 : x = 0 := by omega
   have e1 : vl l = 0 := by omega
   rw [e1, dg16_zero] at hi
   subst hi
   exact h2 x (by simp) e0
  rw [dg16_pos hne]
  have e1 : vl (x :: l) % 65536 = x := by rw [vl]; omega
  have e2 : vl (x :: l) / 65536 = vl l := by rw [vl]; omega
  rw [e1, e2, hi]
end

section
open Go.RowKit
set_option linter.unusedVariables false
set_option linter.unusedSimpArgs false
def uv (z : List Nat) : Array Value := (z.map fun (x : Nat) => Value.int .u64 (x : Int)).toArray
def ArrU (w : World) (g : Nat) (z : List Nat) : Prop := w.heap[g]? = some (.cells (uv z) 86 (0, 0))
theorem ArrU.at_ {w : World} {g k x : Nat} {z : List Nat} (h : ArrU w g z) (hx : z[k]? = some x) : w.cell? ⟨g, k, none⟩ = some (.int .u64 x) := by
 rw [cell_of_row _ _ _ _ _ _ h]
 simp [uv, List.getElem?_map, hx]
theorem heap_setCell_at {w : World} {g o : Nat} {c : Array Value} {e : TypeId} {fz : Nat × Nat} {v : Value} (h : w.heap[g]? = some (.cells c e fz)) : (w.setCell ⟨g, o, none⟩ v).heap[g]? = some (.cells (c.setIfInBounds o v) e fz) := by
 simp only [World.setCell, Array.getElem?_modify]
 simp [h]
theorem ArrU.set {w : World} {g : Nat} {z : List Nat} (h : ArrU w g z) (k d : Nat) : ArrU (w.setCell ⟨g, k, none⟩ (.int .u64 (d : Int))) g (z.set k d) := by
 unfold ArrU at *
 rw [heap_setCell_at h]
 simp [uv, List.map_set]
theorem ArrU.thaw {w : World} {g : Nat} {z : List Nat} (h : ArrU w g z) (k : Nat) : w.frozen? ⟨g, k, none⟩ = false := by
 unfold ArrU at h
 unfold World.frozen?
 simp only [h]
 simp
theorem ArrU.drewN {w : World} {g : Nat} {z : List Nat} (h : ArrU w g z) (k : Nat) : ArrU (w.drewN k) g z := h
theorem ArrU.row {w : World} {g : Nat} {z : List Nat} (h : ArrU w g z) : RowOf uc 1 w w.heap.size (some ⟨g, 0, none⟩) z := by
 intro _
 have hlt : g < w.heap.size := (Array.getElem?_eq_some_iff.1 h).1
 refine ⟨g, 0, rfl, hlt, fun i x hx j v hv => ?_⟩
 have hj : j = 0 := by
  rcases Nat.eq_zero_or_pos j with h | h
  · exact h
  · rw [List.getElem?_eq_none (by simp [uc]; omega)] at hv; cases hv
 subst hj
 simp [uc] at hv
 subst hv
 have := h.at_ hx
 simpa using this
set_option maxRecDepth 100000 in
theorem run_make_u64 (n : Nat) (hn : n ≤ 2000) (k : Int) (hk : k = n) (W : World) :
  (Instr.makeSlice 115 (.int .i64 k) (.int .i64 k)).run Tryz.prog W = .ok (.slice (some ⟨W.heap.size, 0, none⟩) n n) (W.alloc (.cells (uv (List.replicate n 0)) 86)) := by
 subst hk
 obtain ⟨i, hi0, hz, hs, hb⟩ := info_split info30
 have hr := run_make (P := Tryz.prog) W 115 86 i _ Tryz.underlying115 hi0 hz .i64 .i64 n n (by omega) (by omega) (by rw [hb]; omega) (by omega)
 simp only [Int.toNat_natCast, hs, Nat.mul_one] at hr
 rw [hr]
 congr 3
 apply Array.toList_inj.1
 rw [show (Value.int .u64 0).cells = #[.int .u64 0] from rfl, toList_madeCells_one]
 simp [uv]

theorem below_dr {w w' : World} (h : Below w.heap.size w w') : Below w.heap.size w w'.drew := ⟨h.os, h.tape, h.output, h.size, h.block⟩
structure OInv (w wr : World) (N : Nat) (a b : List Nat) (i : Nat) (z : List Nat) : Prop where
 arr : ArrU wr N z
 len : z.length = a.length + b.length
 dig : ∀ x ∈ z, x < 65536
 zero : ∀ k x, i + b.length ≤ k → z[k]? = some x → x = 0
 val : vl z = vl (a.take i) * vl b
 bel : Below w.heap.size w wr
structure IInv (w wr : World) (N : Nat) (a b : List Nat) (i ai c j : Nat) (z : List Nat) : Prop where
 arr : ArrU wr N z
 len : z.length = a.length + b.length
 dig : ∀ x ∈ z, x < 65536
 carry : c < 65536
 zero : ∀ k x, i + b.length ≤ k → z[k]? = some x → x = 0
 val : vl z + 65536 ^ (i + j) * c = vl (a.take i) * vl b + 65536 ^ i * (ai * vl (b.take j))
 bel : Below w.heap.size w wr

theorem OInv.begin_ {w wr : World} {N i ai : Nat} {a b z : List Nat} (h : OInv w wr N a b i z) : IInv w wr N a b i ai 0 0 z where
 arr := h.arr
 len := h.len
 dig := h.dig
 carry := by decide
 zero := h.zero
 val := by rw [h.val]; simp [vl]
 bel := h.bel
theorem mem_set {z : List Nat} {k d : Nat} (h : ∀ x ∈ z, x < 65536) (hd : d < 65536) : ∀ x ∈ z.set k d, x < 65536 := by
 intro x hx
 rcases List.mem_or_eq_of_mem_set hx with h1 | h1
 · exact h x h1
 · subst h1; exact hd
theorem IInv.step {w wr wq : World} {N i ai c j zx bj v : Nat} {a b z : List Nat} (h : IInv w wr N a b i ai c j z) (hz : z[i + j]? = some zx) (hbj : b[j]? = some bj) (hlt : j < b.length)
  (hai : ai < 65536) (hb : bj < 65536) (hv : v = zx + ai * bj + c) (harr : ArrU wq N (z.set (i + j) (v % 65536))) (hbel : Below w.heap.size w wq) : IInv w wq N a b i ai (v / 65536) (j + 1) (z.set (i + j) (v % 65536)) where
 arr := harr
 len := by rw [List.length_set]; exact h.len
 dig := mem_set h.dig (Nat.mod_lt _ (by decide))
 carry := by
  have h1 : zx < 65536 := h.dig zx (List.mem_of_getElem? hz)
  have h2 := h.carry
  have h3 : ai * bj ≤ 65535 * 65535 := Nat.mul_le_mul (by omega) (by omega)
  omega
 zero := fun k x hk hx => by
  rw [List.getElem?_set_ne (by omega)] at hx
  exact h.zero k x hk hx
 val := by
  have e1 := vl_set (v % 65536) hz
  have e0 := h.val
  have et := vl_take hbj
  obtain ⟨P, hP⟩ : ∃ P, 65536 ^ (i + j) = P := ⟨_, rfl⟩
  have e2 : P * (v % 65536) + 65536 * P * (v / 65536) = P * v := by
   rw [show 65536 * P * (v / 65536) = P * (65536 * (v / 65536)) by ac_rfl, ← Nat.mul_add, Nat.mod_add_div]
  have e3 : P * v = P * zx + P * (ai * bj) + P * c := by rw [hv, Nat.mul_add, Nat.mul_add]
  have e4 : 65536 ^ i * (ai * (vl (b.take j) + 65536 ^ j * bj)) = 65536 ^ i * (ai * vl (b.take j)) + P * (ai * bj) := by
   rw [← hP, Nat.pow_add, Nat.mul_add, Nat.mul_add]; congr 1; ac_rfl
  rw [et, e4, show i + (j + 1) = i + j + 1 by omega, Nat.pow_succ, hP, Nat.mul_comm P 65536]
  rw [hP] at e0 e1
  generalize P * (v % 65536) = x1 at *
  generalize 65536 * P * (v / 65536) = x2 at *
  generalize P * zx = x3 at *
  generalize P * (ai * bj) = x4 at *
  generalize P * c = x5 at *
  omega
 bel := hbel
theorem IInv.finish {w wr wq : World} {N i ai c zx : Nat} {a b z : List Nat} (h : IInv w wr N a b i ai c b.length z) (ha : a[i]? = some ai) (hz : z[i + b.length]? = some zx)
  (harr : ArrU wq N (z.set (i + b.length) c)) (hbel : Below w.heap.size w wq) : OInv w wq N a b (i + 1) (z.set (i + b.length) c) where
 arr := harr
 len := by rw [List.length_set]; exact h.len
 dig := mem_set h.dig h.carry
 zero := fun k x hk hx => by
  rw [List.getElem?_set_ne (by omega)] at hx
  exact h.zero k x (by omega) hx
 val := by
  have e1 := vl_set c hz
  have hz0 : zx = 0 := h.zero _ zx (Nat.le_refl _) hz
  have e0 := h.val
  rw [List.take_length] at e0
  rw [hz0, Nat.mul_zero] at e1
  rw [vl_take ha, Nat.add_mul, show 65536 ^ i * ai * vl b = 65536 ^ i * (ai * vl b) by ac_rfl]
  omega
 bel := hbel

/-- A call hands back a number. -/
def RetBig (n : Nat) (e : Ending) (w : World) : Prop := ∃ A c, e = .returned (.slice A (dg16 n).length c) ∧ (dg16 n).length ≤ c ∧ RowOf uc 1 w w.heap.size A (dg16 n)

set_option maxRecDepth 100000 in
set_option maxHeartbeats 3200000 in
theorem times_any (A B : Option Addr) (ca cb : Nat) (a b : List Nat) (w : World) (ha : a.length ≤ 1000) (hb : b.length ≤ 1000) (hA : RowOf uc 1 w w.heap.size A a) (hB : RowOf uc 1 w w.heap.size B b) (ha2 : ∀ x ∈ a, x < 65536) (hb2 : ∀ x ∈ b, x < 65536) :
  Calls Tryz.prog 87 #[.slice A a.length ca, .slice B b.length cb] w fun e w' => RetBig (vl a * vl b) e w' ∧ Below w.heap.size w w' := by
 have HA := Lib.hid hA
 have HB := Lib.hid hB
 have HA2 := Lib.hid ha2
 have HB2 := Lib.hid hb2
 have hmk := run_make_u64 (a.length + b.length) (by omega) ((a.length : Int) + b.length) (by omega)
 clear hA hB ha2 hb2
 go_enter Tryz.func87, Tryz.ntmps87
 go_wp2_with fail
 go_loopw [6] (fun iv wr => ∃ (i : Nat) (z : List Nat), i ≤ a.length ∧ iv = .int .i64 i ∧ OInv w wr w.heap.size a b i z) (fun iv _ => a.length - (intOf iv).toNat)
 case atStart =>
  refine ⟨0, List.replicate (a.length + b.length) 0, Nat.zero_le _, rfl, ⟨heap_alloc_new w _, by simp, fun x hx => by rw [List.mem_replicate] at hx; omega, fun k x _ hx => ?_, ?_, (Below.refl _ _).alloc (Nat.le_refl _) _⟩⟩
  · have := List.mem_of_getElem? hx; rw [List.mem_replicate] at this; exact this.2
  · rw [vl_zeros _ (fun x hx => by rw [List.mem_replicate] at hx; exact hx.2)]; simp [vl]
 case round =>
  obtain ⟨i, z, hi, rfl, hO⟩ := hrel
  have HO := Lib.hid hO
  clear hO
  by_cases hlt : i < a.length
  · obtain ⟨ai, hai⟩ := get_some hlt
    have hai2 := HA2.out ai (List.mem_of_getElem? hai)
    have HAI := Lib.hid hai
    clear hai
    go_wp2_with fail
    go_loopw [7, 8] (fun cv jv wr => ∃ (c j : Nat) (z : List Nat), j ≤ b.length ∧ cv = .int .u64 c ∧ jv = .int .i64 j ∧ IInv w wr w.heap.size a b i ai c j z) (fun _ jv _ => b.length - (intOf jv).toNat)
    case atStart => exact ⟨0, 0, z, Nat.zero_le _, rfl, rfl, HO.out.begin_⟩
    case round =>
     obtain ⟨c, j, y, hj, rfl, rfl, hI⟩ := hrel
     have HI := Lib.hid hI
     have hcy := hI.carry
     have hln := hI.len
     clear hI
     by_cases hjl : j < b.length
     · obtain ⟨bj, hbj⟩ := get_some hjl
       have hbj2 := HB2.out bj (List.mem_of_getElem? hbj)
       obtain ⟨yx, hyx⟩ := get_some (show i + j < y.length by omega)
       have hyx2 := HI.out.dig yx (List.mem_of_getElem? hyx)
       have hcell := HI.out.arr.at_ hyx
       obtain ⟨ba, oa, rfl, _, hca⟩ := row_uc (HA.out.below HI.out.bel (Nat.le_refl _)) HAI.out
       obtain ⟨bb, ob, rfl, _, hcb⟩ := row_uc (HB.out.below HI.out.bel (Nat.le_refl _)) hbj
       have hmul : ai * bj ≤ 65535 * 65535 := Nat.mul_le_mul (by omega) (by omega)
       obtain ⟨p, hp⟩ : ∃ p, ai * bj = p := ⟨_, rfl⟩
       have hpc : (ai : Int) * (bj : Int) = (p : Int) := by rw [← hp]; push_cast; rfl
       have HY := Lib.hid hyx
       have HBJ := Lib.hid hbj
       have HP := Lib.hid hp
       rw [hp] at hmul
       clear hyx hbj hp
       obtain ⟨m, hm⟩ : ∃ m, i + j = m := ⟨_, rfl⟩
       have hm2 : (i : Int) + (j : Int) = (m : Int) := by omega
       have hm3 : IntKind.i64.wrap ((i : Int) + (j : Int)) = (m : Int) := by rw [hm2]; simp only [IntKind.wrap, IntKind.bits, IntKind.signed]; simp; omega
       rw [hm] at hcell
       have g0 : (0 : Int) ≤ (m : Int) := by omega
       have g1 : (m : Int) < ((a.length + b.length : Nat) : Int) := by omega
       have g2 : (i : Int) < (a.length : Int) := by omega
       have g3 : (j : Int) < (b.length : Int) := by omega
       have g4 : (0 : Int) ≤ (i : Int) := by omega
       have g5 : (0 : Int) ≤ (j : Int) := by omega
       have e1 : IntKind.u64.wrap ((ai : Int) * (bj : Int)) = (p : Int) := by rw [hpc]; simp only [IntKind.wrap, IntKind.bits, IntKind.signed]; simp; omega
       obtain ⟨q, hq⟩ : ∃ q, yx + p = q := ⟨_, rfl⟩
       have hq1 : (yx : Int) + (p : Int) = (q : Int) := by omega
       have e2 : IntKind.u64.wrap ((yx : Int) + (p : Int)) = (q : Int) := by rw [hq1]; simp only [IntKind.wrap, IntKind.bits, IntKind.signed]; simp; omega
       obtain ⟨v, hv⟩ : ∃ v, q + c = v := ⟨_, rfl⟩
       have hv1 : (q : Int) + (c : Int) = (v : Int) := by omega
       have e3 : IntKind.u64.wrap ((q : Int) + (c : Int)) = (v : Int) := by rw [hv1]; simp only [IntKind.wrap, IntKind.bits, IntKind.signed]; simp; omega
       obtain ⟨r, hr⟩ : ∃ r, v % 65536 = r := ⟨_, rfl⟩
       have hr1 : (v : Int) % 65536 = (r : Int) := by omega
       obtain ⟨t, ht⟩ : ∃ t, v / 65536 = t := ⟨_, rfl⟩
       have ht1 : (v : Int) / 65536 = (t : Int) := by omega
       have HQ := Lib.hid hq
       have HV := Lib.hid hv
       have HR := Lib.hid hr
       have HT := Lib.hid ht
       have HM := Lib.hid hm
       clear hq hv hr ht hm
       have hfz : wr.frozen? ⟨w.heap.size, m, none⟩ = false := HI.out.arr.thaw m
       go_wp2_with fail
       go_region
       go_wp2_with fail
       refine ⟨⟨t, j + 1, y.set (i + j) r, by omega, rfl, by go_num, ?_⟩, by simp [intOf]; omega⟩
       have hs := IInv.step (v := v) (wq := (wr.setCell ⟨w.heap.size, m, none⟩ (.int .u64 (r : Int))).drew) HI.out HY.out HBJ.out hjl hai2 hbj2 (by rw [← HV.out, ← HQ.out, ← HP.out]) (by rw [HR.out, HM.out]; exact HI.out.arr.set m r) (below_dr (HI.out.bel.setCell (p := ⟨w.heap.size, m, none⟩) (Nat.le_refl _) _))
       rw [HT.out, HR.out] at hs
       exact hs
     · obtain rfl : j = b.length := by omega
       obtain ⟨yx, hyx⟩ := get_some (show i + b.length < y.length by omega)
       obtain ⟨m, hm⟩ : ∃ m, i + b.length = m := ⟨_, rfl⟩
       have hm2 : (i : Int) + (b.length : Int) = (m : Int) := by omega
       have hcell := HI.out.arr.at_ hyx
       rw [hm] at hcell
       have hfz : wr.frozen? ⟨w.heap.size, m, none⟩ = false := HI.out.arr.thaw m
       have g0 : (0 : Int) ≤ (m : Int) := by omega
       have g1 : (m : Int) < ((a.length + b.length : Nat) : Int) := by omega
       have HY := Lib.hid hyx
       have HM := Lib.hid hm
       clear hyx hm
       go_wp2_with fail
       refine ⟨⟨i + 1, y.set (i + b.length) c, by omega, by go_num, ?_⟩, by simp [intOf]; omega⟩
       exact IInv.finish HI.out HAI.out HY.out (by rw [HM.out]; exact HI.out.arr.set m c) (HI.out.bel.setCell (p := ⟨w.heap.size, m, none⟩) (Nat.le_refl _) _)
  · obtain rfl : i = a.length := by omega
    have hln := HO.out.len
    have HT := Lib.hid (trim_any (some ⟨w.heap.size, 0, none⟩) (a.length + b.length) z wr (by omega) (by omega) HO.out.arr.row)
    rw [hln] at HT
    clear hln
    go_wp2_with (go_at_call 108; refine HT.out.mono ?_; rintro e w' ⟨⟨k, hk, rfl, hk1, hk2⟩, rfl⟩)
    go_ret
    refine ⟨⟨some ⟨w.heap.size, 0, none⟩, a.length + b.length, ?_⟩, HO.out.bel⟩
    have hval : vl (z.take k) = vl a * vl b := by rw [vl_cut hk2, HO.out.val, List.take_length]
    have hlen2 : (z.take k).length = k := by rw [List.length_take, HO.out.len]; omega
    have hdg : dg16 (vl a * vl b) = z.take k := by
     rw [← hval]
     refine dg16_vl _ (fun x hx => HO.out.dig x (List.mem_of_mem_take hx)) fun x hx => ?_
     rw [hlen2, List.getElem?_take] at hx
     split at hx
     · exact hk1 x hx (by omega)
     · cases hx
    rw [hdg, hlen2]
    exact ⟨rfl, hk, HO.out.arr.row.take k⟩

theorem retBig_own {n : Nat} {e : Ending} {B : Nat} {w : World} (h : ∃ v, e = .returned v ∧ Own uc 1 86 w B v (dg16 n)) : RetBig n e w := by
 obtain ⟨v, rfl, h⟩ := h
 obtain ⟨A, c, rfl, hr⟩ := h.row uc_len
 refine ⟨A, c, rfl, ?_, hr⟩
 rcases h.2 with ⟨h1, h2⟩ | ⟨g, cap, cur, hv, hB, hgg, hcap, hm, hsz, htake⟩
 · rw [h2]; exact Nat.zero_le _
 · cases hv; omega
end

section
open Go.RowKit
set_option linter.unusedVariables false
set_option linter.unusedSimpArgs false
theorem dg16_dig (n : Nat) : ∀ x ∈ dg16 n, x < 65536 := by
 induction n using Nat.strongRecOn with
 | _ n ih =>
  by_cases h : n = 0
  · subst h; rw [dg16_zero]; intro x hx; cases hx
  · rw [dg16_pos h]
    intro x hx
    rcases List.mem_cons.1 hx with h1 | h1
    · subst h1; exact Nat.mod_lt _ (by decide)
    · exact ih (n / 65536) (by omega) x h1
theorem vl_lt (l : List Nat) (h : ∀ x ∈ l, x < 65536) : vl l < 65536 ^ l.length := by
 induction l with
 | nil => decide
 | cons x l ih =>
  have h1 := h x (List.mem_cons_self ..)
  have h2 := ih (fun y hy => h y (List.mem_cons_of_mem _ hy))
  rw [vl, List.length_cons, Nat.pow_succ]
  omega
theorem of_big (n : Nat) (hn : n < 18446744073709551616) (w : World) : Calls Tryz.prog 88 #[.int .u64 n] w fun e w' => RetBig n e w' ∧ Below w.heap.size w w' :=
 (of_any n hn w).mono fun e w' ⟨h, hb⟩ => ⟨retBig_own h, hb⟩
theorem times_big (n m : Nat) (A B : Option Addr) (ca cb : Nat) (w : World) (hn : (dg16 n).length ≤ 1000) (hm : (dg16 m).length ≤ 1000) (hA : RowOf uc 1 w w.heap.size A (dg16 n)) (hB : RowOf uc 1 w w.heap.size B (dg16 m)) :
  Calls Tryz.prog 87 #[.slice A (dg16 n).length ca, .slice B (dg16 m).length cb] w fun e w' => RetBig (n * m) e w' ∧ Below w.heap.size w w' := by
 have := times_any A B ca cb (dg16 n) (dg16 m) w hn hm hA hB (dg16_dig n) (dg16_dig m)
 rwa [vl_dg16, vl_dg16] at this
theorem of_keep (w : World) (n : Nat) (w1 : World) (A0 : Option Addr) (l0 : List Nat) (hn : n < 18446744073709551616) (hb : Below w.heap.size w w1) (hr : RowOf uc 1 w1 w1.heap.size A0 l0) :
  Calls Tryz.prog 88 #[.int .u64 n] w1 fun e w' => (RetBig n e w' ∧ RowOf uc 1 w' w'.heap.size A0 l0) ∧ Below w.heap.size w w' :=
 (of_big n hn w1).mono fun e w' ⟨h, hb'⟩ => ⟨⟨h, hr.after (Nat.le_refl _) hb'⟩, hb.trans (hb'.mono hb.size)⟩
end

section
open Go.RowKit
set_option linter.unusedVariables false
set_option linter.unusedSimpArgs false
theorem dg16_low (n : Nat) (h : n ≠ 0) : 65536 ^ ((dg16 n).length - 1) ≤ n := by
 induction n using Nat.strongRecOn with
 | _ n ih =>
  rw [dg16_pos h, List.length_cons, Nat.add_sub_cancel]
  by_cases h2 : n / 65536 = 0
  · rw [h2, dg16_zero]; simp; omega
  · have := ih (n / 65536) (by omega) h2
    have hp : (dg16 (n / 65536)).length = (dg16 (n / 65536)).length - 1 + 1 := by
     rw [dg16_pos h2, List.length_cons]; omega
    rw [hp, Nat.pow_succ]
    have := Nat.mul_le_mul_right 65536 this
    omega
theorem dg16_lt (n : Nat) : n < 65536 ^ (dg16 n).length := by
 have := vl_lt (dg16 n) (dg16_dig n)
 rwa [vl_dg16] at this
theorem len_lt {n m : Nat} (h : (dg16 n).length < (dg16 m).length) : n < m := by
 have h1 := dg16_lt n
 have hm : m ≠ 0 := by intro e; subst e; rw [dg16_zero] at h; simp at h
 have h2 := dg16_low m hm
 have : 65536 ^ (dg16 n).length ≤ 65536 ^ ((dg16 m).length - 1) := Nat.pow_le_pow_right (by decide) (by omega)
 omega
theorem vl_at_lt {l r : List Nat} {k x y : Nat} (hx : l[k]? = some x) (hy : r[k]? = some y) (hxy : x < y) (hd : l.drop (k + 1) = r.drop (k + 1)) (hl : ∀ x ∈ l, x < 65536) : vl l < vl r := by
 have e1 := vl_append (l.take k) (l.drop k)
 have e2 := vl_append (r.take k) (r.drop k)
 rw [List.take_append_drop, drop_cons hx, vl] at e1
 rw [List.take_append_drop, drop_cons hy, vl, ← hd] at e2
 have hkl : k < l.length := by
  rcases Nat.lt_or_ge k l.length with h | h
  · exact h
  · rw [List.getElem?_eq_none h] at hx; cases hx
 have hkr : k < r.length := by
  rcases Nat.lt_or_ge k r.length with h | h
  · exact h
  · rw [List.getElem?_eq_none h] at hy; cases hy
 have l1 : (l.take k).length = k := by rw [List.length_take]; omega
 have l2 : (r.take k).length = k := by rw [List.length_take]; omega
 rw [l1] at e1
 rw [l2] at e2
 have hlt := vl_lt (l.take k) (fun x hx => hl x (List.mem_of_mem_take hx))
 rw [l1] at hlt
 rw [e1, e2]
 have h3 : 65536 ^ k * (x + 65536 * vl (l.drop (k + 1))) + 65536 ^ k ≤ 65536 ^ k * (y + 65536 * vl (l.drop (k + 1))) := by
  rw [← Nat.mul_succ]; exact Nat.mul_le_mul_left _ (by omega)
 omega
def cmpI (n m : Nat) : Int := if n < m then -1 else if n = m then 0 else 1

set_option maxRecDepth 100000 in
set_option maxHeartbeats 3200000 in
theorem cmp_any (n m : Nat) (A B : Option Addr) (ca cb : Nat) (w : World) (hn : (dg16 n).length ≤ 1000) (hm : (dg16 m).length ≤ 1000) (hA : RowOf uc 1 w w.heap.size A (dg16 n)) (hB : RowOf uc 1 w w.heap.size B (dg16 m)) :
  Calls Tryz.prog 111 #[.slice A (dg16 n).length ca, .slice B (dg16 m).length cb] w fun e w' => e = .returned (.int .i64 (cmpI n m)) ∧ Below w.heap.size w w' := by
 have HA := Lib.hid hA
 have HB := Lib.hid hB
 have HDN := Lib.hid (dg16_dig n)
 have HDM := Lib.hid (dg16_dig m)
 have HVN := Lib.hid (vl_dg16 n)
 have HVM := Lib.hid (vl_dg16 m)
 have HL1 := Lib.hid (@len_lt n m)
 have HL2 := Lib.hid (@len_lt m n)
 have hne1 : n < m → cmpI n m = -1 := fun h => by unfold cmpI; rw [if_pos h]
 have hne2 : m < n → cmpI n m = 1 := fun h => by unfold cmpI; rw [if_neg (by omega), if_neg (by omega)]
 have hne3 : n = m → cmpI n m = 0 := fun h => by unfold cmpI; rw [if_neg (by omega), if_pos h]
 have C1 := Lib.hid hne1
 have C2 := Lib.hid hne2
 have C3 := Lib.hid hne3
 clear hA hB hne1 hne2 hne3
 generalize hl : dg16 n = l at *
 generalize hr : dg16 m = r at *
 generalize cmpI n m = V at *
 clear hl hr
 rcases Nat.lt_trichotomy l.length r.length with h | h | h
 · have hv := C1.out (HL1.out h)
   subst hv
   have h1 : ¬ (l.length : Int) = r.length := by omega
   have h2 : (l.length : Int) < r.length := by omega
   have h3 : ((l.length : Int) == r.length) = false := by simpa using h1
   clear h
   go_enter Tryz.func111, Tryz.ntmps111
   go_wp2_with fail
   go_ret
   exact ⟨rfl, Below.refl _ _⟩
 · have h1 : (l.length : Int) = r.length := by omega
   have h3 : ((l.length : Int) != r.length) = false := by simpa using h1
   have HLL := Lib.hid h
   clear h
   go_enter Tryz.func111, Tryz.ntmps111
   go_wp2_with fail
   go_loopw [5] (fun iv wr => ∃ (k : Nat), k ≤ l.length ∧ iv = .int .i64 ((k : Int) - 1) ∧ l.drop k = r.drop k ∧ Below w.heap.size w wr) (fun iv _ => ((intOf iv) + 1).toNat)
   case atStart => exact ⟨l.length, Nat.le_refl _, by first | rfl | (rw [h1]), by rw [List.drop_length, HLL.out, List.drop_length], Below.refl _ _⟩
   case round =>
    obtain ⟨k, hk, rfl, hd, hb⟩ := hrel
    have HDR := Lib.hid hd
    have HBE := Lib.hid hb
    clear hd hb
    by_cases h0 : k = 0
    · subst h0
      have hv := C3.out (by have := HDR.out; rw [List.drop_zero, List.drop_zero] at this; rw [← HVN.out, ← HVM.out, this])
      subst hv
      go_wp2_with fail
      go_ret
      exact ⟨rfl, HBE.out⟩
    · obtain ⟨p, rfl⟩ : ∃ p, k = p + 1 := ⟨k - 1, by omega⟩
      have e1 : ((p + 1 : Nat) : Int) - 1 = (p : Int) := by omega
      rw [e1]
      obtain ⟨x, hx⟩ := get_some (show p < l.length by omega)
      obtain ⟨y, hy⟩ := get_some (show p < r.length by have := HLL.out; omega)
      obtain ⟨ba, oa, rfl, _, hca⟩ := row_uc (HA.out.below HBE.out (Nat.le_refl _)) hx
      obtain ⟨bb, ob, rfl, _, hcb⟩ := row_uc (HB.out.below HBE.out (Nat.le_refl _)) hy
      have g0 : (0 : Int) ≤ (p : Int) := by omega
      have g1 : (p : Int) < (l.length : Int) := by omega
      have g2 : (p : Int) < (r.length : Int) := by omega
      have HX := Lib.hid hx
      have HY := Lib.hid hy
      clear hx hy
      rcases Nat.lt_trichotomy x y with hxy | hxy | hxy
      · have hv := C1.out (by rw [← HVN.out, ← HVM.out]; exact vl_at_lt HX.out HY.out hxy HDR.out HDN.out)
        subst hv
        have d1 : decide ((x : Int) < (y : Int)) = true := by simp; omega
        go_wp2_with fail
        go_region
        go_wp2_with fail
        go_ret
        exact ⟨rfl, below_dr HBE.out⟩
      · have HE := Lib.hid hxy
        have d1 : decide ((x : Int) < (y : Int)) = false := by simp; omega
        have d2 : decide ((x : Int) > (y : Int)) = false := by simp; omega
        go_wp2_with fail
        go_region
        go_wp2_with fail
        go_region
        go_wp2_with fail
        refine ⟨⟨p, by omega, by first | rfl | go_num, by rw [drop_cons HX.out, drop_cons HY.out, HE.out, HDR.out], below_dr (below_dr HBE.out)⟩, by simp [intOf] <;> omega⟩
      · have hv := C2.out (by rw [← HVN.out, ← HVM.out]; exact vl_at_lt HY.out HX.out hxy HDR.out.symm HDM.out)
        subst hv
        have d1 : decide ((x : Int) < (y : Int)) = false := by simp; omega
        have d2 : decide ((x : Int) > (y : Int)) = true := by simp; omega
        go_wp2_with fail
        go_region
        go_wp2_with fail
        go_region
        go_wp2_with fail
        go_ret
        exact ⟨rfl, below_dr (below_dr HBE.out)⟩
 · have hv := C2.out (HL2.out h)
   subst hv
   have h1 : ¬ (l.length : Int) = r.length := by omega
   have h2 : ¬ (l.length : Int) < r.length := by omega
   have h3 : ((l.length : Int) == r.length) = false := by simpa using h1
   clear h
   go_enter Tryz.func111, Tryz.ntmps111
   go_wp2_with fail
   go_ret
   exact ⟨rfl, Below.refl _ _⟩
end
end Go.Proofs.YtclbmmiedihepaaGreatDoor
