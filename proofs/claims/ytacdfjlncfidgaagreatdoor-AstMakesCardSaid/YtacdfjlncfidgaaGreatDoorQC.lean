/- A part of what the claim leans on. -/
import Derived.Test.YtacdfjlncfidgaaGreatDoorQB
import Derived.Lib.ItoaLen
import Derived.Test.YtacdfjlncfidgaaGreatDoorQA
namespace Go.Proofs.YtacdfjlncfidgaaGreatDoor
open Go.RowKit
set_option linter.unusedVariables false
set_option linter.unusedSimpArgs false
def valD (acc : Nat) (l : List UInt8) : Nat := l.foldl (fun a c => a * 10 + (c.toNat - 48)) acc
theorem valD_le (l : List UInt8) : ∀ acc, acc ≤ valD acc l := by
 induction l with
 | nil => intro acc; exact Nat.le_refl _
 | cons c r ih => intro acc; have := ih (acc * 10 + (c.toNat - 48)); simp only [valD, List.foldl_cons] at this ⊢; omega
theorem parseM_val (M : Nat) (hM : M < 18446744073709551616) (l : List UInt8) : ∀ acc, (∀ c ∈ l, isDig c = true) → valD acc l ≤ M → Lib.parseUintM M acc l = .ok (valD acc l) := by
 induction l with
 | nil => intro acc _ _; rfl
 | cons c r ih =>
  intro acc hd hv
  have h1 : 48 ≤ c.toNat ∧ c.toNat ≤ 57 := by have := hd c (List.mem_cons_self ..); simpa [isDig] using this
  have h2 := valD_le r (acc * 10 + (c.toNat - 48))
  have h3 : valD acc (c :: r) = valD (acc * 10 + (c.toNat - 48)) r := rfl
  rw [h3] at hv ⊢
  rw [Lib.parseUintM, if_pos h1, if_neg (by omega), if_neg (by omega)]
  exact ih _ (fun c hc => hd c (List.mem_cons_of_mem _ hc)) hv
theorem digN_all (l : List UInt8) (h : ∀ c ∈ l, isDig c = true) : digN l = l.length := digN_at (Nat.le_refl _) (fun c hc => h c (List.mem_of_mem_take hc)) (Or.inl rfl)
theorem int_nat (s : ByteArray) (v : Int) (hs : s.size ≤ 9223372036854775806) (hn : natV s.data.toList = true) (hp : Lib.parseIntB 64 s.data.toList = .ok v) (w : World) :
  Calls Tryz.prog 172 #[.string s] w fun e w' => e = .returned (.tuple #[.int .i64 v, .int .i64 0]) ∧ Below w.heap.size w w' := by
 have HN := Lib.hid (natural_any s w (by omega))
 rw [hn] at HN
 have HP := Lib.hid (Tryz.strconv_ParseInt_10_at64_ok s hs v hp w)
 clear hn hp
 go_enter Tryz.func172, Tryz.ntmps172
 go_wp2_with (first | (go_at_call 182; refine HN.out.mono ?_; rintro e w' ⟨rfl, rfl⟩) | (go_at_call 183; refine HP.out.mono ?_; rintro e w1 ⟨rfl, hw1⟩))
 go_ret2
 refine ⟨rfl, ?_⟩
 rcases hw1 with rfl | ⟨t, rfl⟩
 · exact Below.refl _ _
 · exact Go.Joins.below_bytesWorld _ _ _ _ (Nat.le_refl _)
theorem int_not (s : ByteArray) (hs : s.size ≤ 9223372036854775806) (hn : natV s.data.toList = false) (w : World) :
  Calls Tryz.prog 172 #[.string s] w fun e w' => e = .returned (.tuple #[.int .i64 0, .int .i64 4]) ∧ w = w' := by
 have HN := Lib.hid (natural_any s w (by omega))
 rw [hn] at HN
 clear hn
 go_enter Tryz.func172, Tryz.ntmps172
 go_wp2_with (go_at_call 182; refine HN.out.mono ?_; rintro e w' ⟨rfl, rfl⟩)
 go_ret2
 exact ⟨rfl, rfl⟩
theorem order_self (d : Ieee.Datum) : d.order d = if d.isNaN then none else some .eq := by
 cases d with
 | nan s t => rfl
 | infinity s => cases s <;> rfl
 | number s m i =>
  simp only [Ieee.Datum.order, Ieee.Datum.isNaN, Std.ReflCmp.compare_self]
  rfl
theorem read_nan (b : Nat) : (Ieee.double.read b).isNaN = decide (b % 9223372036854775808 > 9218868437227405312) := by
 have h1 : Ieee.double.signWeight = 9223372036854775808 := by decide
 have h2 : Ieee.double.infRung = 9218868437227405312 := by decide
 have h3 : Ieee.double.binade = 4503599627370496 := by decide
 unfold Ieee.Format.read
 simp only [h1, h2, h3]
 split
 · simp [Ieee.Datum.isNaN]; omega
 · split
   · simp [Ieee.Datum.isNaN]; omega
   · split
     · simp [Ieee.Datum.isNaN]; omega
     · simp [Ieee.Datum.isNaN]; omega
theorem nanB_is (b : Nat) : nanB b = decide (b % 9223372036854775808 > 9218868437227405312) := by
 unfold nanB Ieee.Format.order
 rw [order_self, show FloatKind.f64.format = Ieee.double from rfl, read_nan]
 by_cases h : b % 9223372036854775808 > 9218868437227405312 <;> simp [h]
def uc (x : Nat) : List Value := [.int .u64 x]
def vl : List Nat → Nat
 | [] => 0
 | d :: r => d + 65536 * vl r
theorem vl_append (a b : List Nat) : vl (a ++ b) = vl a + 65536 ^ a.length * vl b := by
 induction a with
 | nil => simp [vl]
 | cons x a ih =>
  rw [List.cons_append, vl, ih, vl, List.length_cons, Nat.pow_succ, Nat.mul_add, Nat.mul_comm (65536 ^ a.length) 65536, Nat.mul_assoc]
  omega
theorem vl_snoc (a : List Nat) (d : Nat) : vl (a ++ [d]) = vl a + 65536 ^ a.length * d := by rw [vl_append]; simp [vl]
theorem vl_take {l : List Nat} {k x : Nat} (hx : l[k]? = some x) : vl (l.take (k + 1)) = vl (l.take k) + 65536 ^ k * x := by
 have hlt : k < l.length := by
  rcases Nat.lt_or_ge k l.length with h | h
  · exact h
  · rw [List.getElem?_eq_none h] at hx; cases hx
 rw [take_snoc hx, vl_snoc, List.length_take, Nat.min_eq_left (by omega)]
theorem vl_set {l : List Nat} {k x : Nat} (d : Nat) (hx : l[k]? = some x) : vl (l.set k d) + 65536 ^ k * x = vl l + 65536 ^ k * d := by
 induction l generalizing k with
 | nil => simp at hx
 | cons y l ih =>
  cases k with
  | zero => simp at hx; subst hx; simp [vl]; omega
  | succ k =>
   simp at hx
   have := ih hx
   rw [List.set_cons_succ, vl, vl, Nat.pow_succ, Nat.mul_comm (65536 ^ k) 65536, Nat.mul_assoc, Nat.mul_assoc]
   omega
def uv (z : List Nat) : Array Value := (z.map fun (x : Nat) => Value.int .u64 (x : Int)).toArray
def ArrU (w : World) (g : Nat) (z : List Nat) : Prop := w.heap[g]? = some (.cells (uv z) 87 (0, 0))
theorem ArrU.at_ {w : World} {g k x : Nat} {z : List Nat} (h : ArrU w g z) (hx : z[k]? = some x) : w.cell? ⟨g, k, none⟩ = some (.int .u64 x) := by
 rw [cell_of_row _ _ _ _ _ _ h]
 simp [uv, List.getElem?_map, hx]
theorem heap_setCell_at {w : World} {g o : Nat} {c : Array Value} {e : TypeId} {fz : Nat × Nat} {v : Value} (h : w.heap[g]? = some (.cells c e fz)) : (w.setCell ⟨g, o, none⟩ v).heap[g]? = some (.cells (c.setIfInBounds o v) e fz) := by
 simp only [World.setCell, Array.getElem?_modify]
 simp [h]
theorem ArrU.set {w : World} {g : Nat} {z : List Nat} (h : ArrU w g z) (k d : Nat) : ArrU (w.setCell ⟨g, k, none⟩ (.int .u64 (d : Int))) g (z.set k d) := by
 unfold ArrU at *
 rw [heap_setCell_at h]
 simp [uv, List.map_set]
theorem ArrU.thaw {w : World} {g : Nat} {z : List Nat} (h : ArrU w g z) (k : Nat) : w.frozen? ⟨g, k, none⟩ = false := by
 unfold ArrU at h
 unfold World.frozen?
 simp only [h]
 simp
theorem ArrU.drewN {w : World} {g : Nat} {z : List Nat} (h : ArrU w g z) (k : Nat) : ArrU (w.drewN k) g z := h
theorem ArrU.row {w : World} {g : Nat} {z : List Nat} (h : ArrU w g z) : RowOf uc 1 w w.heap.size (some ⟨g, 0, none⟩) z := by
 intro _
 have hlt : g < w.heap.size := (Array.getElem?_eq_some_iff.1 h).1
 refine ⟨g, 0, rfl, hlt, fun i x hx j v hv => ?_⟩
 have hj : j = 0 := by
  rcases Nat.eq_zero_or_pos j with h | h
  · exact h
  · rw [List.getElem?_eq_none (by simp [uc]; omega)] at hv; cases hv
 subst hj
 simp [uc] at hv
 subst hv
 have := h.at_ hx
 simpa using this
structure OInv (w wr : World) (N : Nat) (a b : List Nat) (i : Nat) (z : List Nat) : Prop where
 arr : ArrU wr N z
 len : z.length = a.length + b.length
 dig : ∀ x ∈ z, x < 65536
 zero : ∀ k x, i + b.length ≤ k → z[k]? = some x → x = 0
 val : vl z = vl (a.take i) * vl b
 bel : Below w.heap.size w wr
structure IInv (w wr : World) (N : Nat) (a b : List Nat) (i ai c j : Nat) (z : List Nat) : Prop where
 arr : ArrU wr N z
 len : z.length = a.length + b.length
 dig : ∀ x ∈ z, x < 65536
 carry : c < 65536
 zero : ∀ k x, i + b.length ≤ k → z[k]? = some x → x = 0
 val : vl z + 65536 ^ (i + j) * c = vl (a.take i) * vl b + 65536 ^ i * (ai * vl (b.take j))
 bel : Below w.heap.size w wr
theorem OInv.begin_ {w wr : World} {N i ai : Nat} {a b z : List Nat} (h : OInv w wr N a b i z) : IInv w wr N a b i ai 0 0 z where
 arr := h.arr
 len := h.len
 dig := h.dig
 carry := by decide
 zero := h.zero
 val := by rw [h.val]; simp [vl]
 bel := h.bel
theorem mem_set {z : List Nat} {k d : Nat} (h : ∀ x ∈ z, x < 65536) (hd : d < 65536) : ∀ x ∈ z.set k d, x < 65536 := by
 intro x hx
 rcases List.mem_or_eq_of_mem_set hx with h1 | h1
 · exact h x h1
 · subst h1; exact hd
theorem IInv.step {w wr wq : World} {N i ai c j zx bj v : Nat} {a b z : List Nat} (h : IInv w wr N a b i ai c j z) (hz : z[i + j]? = some zx) (hbj : b[j]? = some bj) (hlt : j < b.length)
  (hai : ai < 65536) (hb : bj < 65536) (hv : v = zx + ai * bj + c) (harr : ArrU wq N (z.set (i + j) (v % 65536))) (hbel : Below w.heap.size w wq) : IInv w wq N a b i ai (v / 65536) (j + 1) (z.set (i + j) (v % 65536)) where
 arr := harr
 len := by rw [List.length_set]; exact h.len
 dig := mem_set h.dig (Nat.mod_lt _ (by decide))
 carry := by
  have h1 : zx < 65536 := h.dig zx (List.mem_of_getElem? hz)
  have h2 := h.carry
  have h3 : ai * bj ≤ 65535 * 65535 := Nat.mul_le_mul (by omega) (by omega)
  omega
 zero := fun k x hk hx => by
  rw [List.getElem?_set_ne (by omega)] at hx
  exact h.zero k x hk hx
 val := by
  have e1 := vl_set (v % 65536) hz
  have e0 := h.val
  have et := vl_take hbj
  obtain ⟨P, hP⟩ : ∃ P, 65536 ^ (i + j) = P := ⟨_, rfl⟩
  have e2 : P * (v % 65536) + 65536 * P * (v / 65536) = P * v := by
   rw [show 65536 * P * (v / 65536) = P * (65536 * (v / 65536)) by ac_rfl, ← Nat.mul_add, Nat.mod_add_div]
  have e3 : P * v = P * zx + P * (ai * bj) + P * c := by rw [hv, Nat.mul_add, Nat.mul_add]
  have e4 : 65536 ^ i * (ai * (vl (b.take j) + 65536 ^ j * bj)) = 65536 ^ i * (ai * vl (b.take j)) + P * (ai * bj) := by
   rw [← hP, Nat.pow_add, Nat.mul_add, Nat.mul_add]; congr 1; ac_rfl
  rw [et, e4, show i + (j + 1) = i + j + 1 by omega, Nat.pow_succ, hP, Nat.mul_comm P 65536]
  rw [hP] at e0 e1
  generalize P * (v % 65536) = x1 at *
  generalize 65536 * P * (v / 65536) = x2 at *
  generalize P * zx = x3 at *
  generalize P * (ai * bj) = x4 at *
  generalize P * c = x5 at *
  omega
 bel := hbel
structure LInv (a b : List Nat) (i lent : Nat) (l : List Nat) : Prop where
 len : l.length = i
 dig : ∀ x ∈ l, x < 65536
 lent1 : lent ≤ 1
 val : vl (a.take i) + 65536 ^ i * lent = vl (b.take i) + vl l
theorem take_over {l : List Nat} {i : Nat} (h : l.length ≤ i) : l.take i = l := List.take_of_length_le h
theorem mem_snoc {l : List Nat} {d : Nat} (h : ∀ x ∈ l, x < 65536) (hd : d < 65536) : ∀ x ∈ l ++ [d], x < 65536 := by
 intro x hx
 rcases List.mem_append.1 hx with h1 | h1
 · exact h x h1
 · rw [List.mem_singleton] at h1; omega
theorem LInv.step {a b l : List Nat} {i lent ai y x : Nat} (h : LInv a b i lent l) (hai : a[i]? = some ai) (ha : ai < 65536) (hy : y < 65536)
  (hb : (b[i]? = some y) ∨ (b.length ≤ i ∧ y = 0)) (hx : x + lent + y = ai + 65536) : LInv a b (i + 1) (1 - x / 65536) (l ++ [x % 65536]) where
 len := by rw [List.length_append, h.len]; rfl
 dig := mem_snoc h.dig (Nat.mod_lt _ (by decide))
 lent1 := by omega
 val := by
  have e0 := h.val
  have h1 := h.lent1
  have eb : vl (b.take (i + 1)) = vl (b.take i) + 65536 ^ i * y := by
   rcases hb with hb | ⟨hb, rfl⟩
   · exact vl_take hb
   · rw [take_over (by omega), take_over hb]; simp
  rw [vl_take hai, eb, vl_snoc, h.len, Nat.pow_succ]
  generalize 65536 ^ i = P at *
  have hq : x / 65536 ≤ 1 := by omega
  have c1 : ai + 65536 * (1 - x / 65536) = lent + y + x % 65536 := by omega
  have c2 : P * (ai + 65536 * (1 - x / 65536)) = P * (lent + y + x % 65536) := by rw [c1]
  rw [Nat.mul_add, Nat.mul_add, Nat.mul_add] at c2
  rw [Nat.mul_assoc P 65536]
  omega
structure SInv (a b : List Nat) (i c : Nat) (l : List Nat) : Prop where
 len : l.length = i
 dig : ∀ x ∈ l, x < 65536
 carry : c ≤ 1
 val : vl (a.take i) + vl (b.take i) = vl l + 65536 ^ i * c
theorem SInv.step {a b l : List Nat} {i c x y z : Nat} (h : SInv a b i c l) (hx : x < 65536) (hy : y < 65536)
  (ha : (a[i]? = some x) ∨ (a.length ≤ i ∧ x = 0)) (hb : (b[i]? = some y) ∨ (b.length ≤ i ∧ y = 0)) (hz : z = c + x + y) : SInv a b (i + 1) (z / 65536) (l ++ [z % 65536]) where
 len := by rw [List.length_append, h.len]; rfl
 dig := mem_snoc h.dig (Nat.mod_lt _ (by decide))
 carry := by have := h.carry; omega
 val := by
  have e0 := h.val
  have ea : vl (a.take (i + 1)) = vl (a.take i) + 65536 ^ i * x := by
   rcases ha with ha | ⟨ha, rfl⟩
   · exact vl_take ha
   · rw [take_over (by omega), take_over ha]; simp
  have eb : vl (b.take (i + 1)) = vl (b.take i) + 65536 ^ i * y := by
   rcases hb with hb | ⟨hb, rfl⟩
   · exact vl_take hb
   · rw [take_over (by omega), take_over hb]; simp
  rw [ea, eb, vl_snoc, h.len, Nat.pow_succ]
  generalize 65536 ^ i = P at *
  have c1 : z % 65536 + 65536 * (z / 65536) = c + x + y := by omega
  have c2 : P * (z % 65536 + 65536 * (z / 65536)) = P * (c + x + y) := by rw [c1]
  rw [Nat.mul_add, Nat.mul_add, Nat.mul_add] at c2
  rw [Nat.mul_assoc P 65536]
  omega
def BitsOf (n b : Nat) : Prop := n < 2 ^ b ∧ (n ≠ 0 → 1 ≤ b ∧ 2 ^ (b - 1) ≤ n)
end Go.Proofs.YtacdfjlncfidgaaGreatDoor
