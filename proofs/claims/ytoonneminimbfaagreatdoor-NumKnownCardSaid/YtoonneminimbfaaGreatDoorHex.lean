/- strconv.FormatUint to the base 16. -/
import Derived.Test.YtoonneminimbfaaGreatDoorNat
import Derived.Laws.BytesString
import Derived.Laws.Bits64b
namespace Go.Proofs.YtoonneminimbfaaGreatDoor
open Go.RowKit
set_option linter.unusedVariables false
set_option linter.unusedSimpArgs false

def digs : List UInt8 := [48, 49, 50, 51, 52, 53, 54, 55, 56, 57, 97, 98, 99, 100, 101, 102]
def hexc (n : Nat) : UInt8 := digs.getD n 0

/-- The digits to the base 16, the greatest first. -/
def hexD : Nat → Nat → List UInt8
  | 0, _ => []
  | f + 1, u => if u < 16 then [hexc u] else hexD f (u / 16) ++ [hexc (u % 16)]
def hexV (u : Nat) : List UInt8 := hexD 16 u
theorem hexD_more : ∀ (f u : Nat), u < 16 ^ f → 0 < f → hexD (f + 1) u = hexD f u := by
  intro f
  induction f with
  | zero => intro u h1 h2; omega
  | succ f ih =>
    intro u h1 h2
    by_cases hu : u < 16
    · simp [hexD, hu]
    · rw [hexD, if_neg hu, show hexD (f + 1) u = hexD f (u / 16) ++ [hexc (u % 16)] by rw [hexD, if_neg hu]]
      rw [ih (u / 16) (by rw [Nat.div_lt_iff_lt_mul (by omega)]; rw [Nat.pow_succ] at h1; omega) (by
        rcases Nat.eq_zero_or_pos f with h | h
        · subst h; simp at h1; omega
        · exact h)]
theorem hexD_len : ∀ (f u : Nat), (hexD f u).length ≤ f := by
  intro f
  induction f with
  | zero => intro u; simp [hexD]
  | succ f ih =>
    intro u
    rw [hexD]
    split
    · simp
    · have := ih (u / 16); simp; omega

theorem slice65 (g i : Nat) (hi : i < 65) (X : World) : (Instr.sliceAt 143 (.pointer (some ⟨g, 0, none⟩)) (some (.int .i64 (i : Int))) none none).run Tryz.prog X = .ok (.slice (some ⟨g, i, none⟩) (65 - i) (65 - i)) X := by
  have h1 : Tryz.prog.arrayLen 143 = 65 := by kernel_rfl
  have h2 : Tryz.prog.elem 143 = 5 := by kernel_rfl
  have hu : Tryz.prog.underlying 143 = some (.array (Tryz.prog.arrayLen 143) (Tryz.prog.elem 143)) := by kernel_rfl
  rw [run_sliceAt_array_l X 143 ⟨g, 0, none⟩ hu .i64 i (by omega) (by rw [h1]; omega), h1, h2, Tryz.sizeOf5]
  have : ¬ 65 = i := by omega
  simp [Result.andThen, slicedAt, this, Addr.add]
  omega
theorem isPow16 (w : World) : Calls Tryz.prog 125 #[.int .i64 16] w fun e w' => e = .returned (.bool true) ∧ w = w' := by
  go_enter Tryz.func125, Tryz.ntmps125
  go_wp2_with fail
  go_ret
  exact ⟨ret_bool (by first | rfl | decide), rfl⟩

theorem tz64_16 (w : World) (h : w.cell? ⟨12, 15, none⟩ = some (.int .u8 4)) : Calls Tryz.prog 148 #[.int .u64 16] w fun e w' => e = .returned (.int .i64 4) ∧ w = w' := by
  have hi : IntKind.u64.wrap (bits BinOp.and IntKind.u64 16 (IntKind.u64.wrap (-16)) * 285870213051353865) / 288230376151711744 = 15 := by decide
  go_enter Tryz.func148, Tryz.ntmps148
  go_wp2_with fail
  go_ret
  exact ⟨rfl, rfl⟩

theorem tz_16 (w : World) (h : w.cell? ⟨12, 15, none⟩ = some (.int .u8 4)) : Calls Tryz.prog 126 #[.int .u64 16] w fun e w' => e = .returned (.int .i64 4) ∧ w = w' := by
  go_enter Tryz.func126, Tryz.ntmps126
  go_wp2_with (go_at_call 148; refine (tz64_16 _ h).mono ?_; rintro e w' ⟨rfl, rfl⟩)
  go_ret
  exact ⟨rfl, rfl⟩

/-- The array's block: the digits S from i on. -/
def Bits (g : Nat) (i : Nat) (S : List UInt8) (X : World) : Prop :=
  ∃ arr, X.heap[g]? = some (.cells arr 143 (0, 0)) ∧ arr.size = 65 ∧ ∀ j c, S[j]? = some c → arr[i + j]? = some (.int .u8 c.toNat)

theorem Bits.set {g i : Nat} {S : List UInt8} {X : World} (h : Bits g i S X) (h0 : 0 < i) (hi : i ≤ 65) (c : UInt8) : Bits g (i - 1) (c :: S) (X.setCell ⟨g, i - 1, none⟩ (.int .u8 c.toNat)) := by
  obtain ⟨arr, ha, hs, hc⟩ := h
  refine ⟨arr.setIfInBounds (i - 1) (.int .u8 c.toNat), ?_, by simpa using hs, fun j d hj => ?_⟩
  · simp only [World.setCell, Array.getElem?_modify]
    simp [ha]
  · cases j with
    | zero =>
      simp at hj
      subst hj
      rw [Nat.add_zero, Array.getElem?_setIfInBounds_self_of_lt (by omega)]
    | succ j =>
      simp at hj
      rw [Array.getElem?_setIfInBounds_ne (by omega), show i - 1 + (j + 1) = i + j by omega]
      exact hc j d hj
theorem Bits.cell {g i : Nat} {S : List UInt8} {X : World} (h : Bits g i S X) (j : Nat) (c : UInt8) (hj : S[j]? = some c) : X.cell? ⟨g, i + j, none⟩ = some (.int .u8 c.toNat) := by
  obtain ⟨arr, ha, hs, hc⟩ := h
  simp only [World.cell?, ha]
  simpa using hc j c hj

def dig36 : ByteArray := ⟨#[48, 49, 50, 51, 52, 53, 54, 55, 56, 57, 97, 98, 99, 100, 101, 102, 103, 104, 105, 106, 107, 108, 109, 110, 111, 112, 113, 114, 115, 116, 117, 118, 119, 120, 121, 122]⟩
theorem dig_all : ∀ q : Fin 16, dig36[q.val]'(by have := q.isLt; show q.val < 36; omega) = hexc q.val := by decide
theorem dig_at (q : Nat) (h : q < 16) (h' : q < dig36.size) : dig36[q] = hexc q := by
  exact dig_all ⟨q, h⟩
theorem and15 (v : Nat) (h : v < 18446744073709551616) : bits .and .u64 (v : Int) 15 = ((v % 16 : Nat) : Int) := by
  have h1 := bits_and_u64_nat v 15 h (by decide)
  have h2 : v &&& 15 = v % 16 := Nat.and_two_pow_sub_one_eq_mod v 4
  rw [h2] at h1
  exact h1

set_option maxRecDepth 1000000 in
set_option maxHeartbeats 3200000 in
theorem formatBits16 (u : Nat) (hu : u < 18446744073709551616) (w : World) (h : w.cell? ⟨12, 15, none⟩ = some (.int .u8 4)) :
    Calls Tryz.prog 108 #[.slice none 0 0, .int .u64 u, .int .i64 16, .bool false, .bool false] w fun e w' => e = .returned (.tuple #[.slice none 0 0, .string ⟨(hexV u).toArray⟩]) ∧ Below w.heap.size w w' := by
  have H := Lib.hid h
  clear h
  go_enter Tryz.func108, Tryz.ntmps108
  have h126 : (w.alloc (.cells Tryz.zeroCells143 143)).cell? ⟨12, 15, none⟩ = some (.int .u8 4) := by
    have hb : Below w.heap.size w (w.alloc (.cells Tryz.zeroCells143 143)) := (Below.refl _ _).alloc (Nat.le_refl _) _
    exact (hb.cell (p := ⟨12, 15, none⟩) (World.block_lt_of_cell? _ _ H.out)).trans H.out
  have H126 := Lib.hid h126
  clear h126
  go_wp2_with (first | (go_at_call 125; refine (isPow16 _).mono ?_; rintro e w' ⟨rfl, rfl⟩) | (go_at_call 126; refine (tz_16 _ H126.out).mono ?_; rintro e w' ⟨rfl, rfl⟩))
  obtain ⟨g, hg⟩ : ∃ g, w.heap.size = g := ⟨_, rfl⟩
  rw [hg]
  have HG := Lib.hid hg
  clear hg
  go_loopw [1, 13] (fun uu ii wr => ∃ (v i f : Nat) (S : List UInt8), uu = .int .u64 v ∧ ii = .int .i64 i ∧ 0 < f ∧ f + S.length = 16 ∧ i + S.length = 65 ∧ v < 16 ^ f ∧ hexV u = hexD f v ++ S ∧ Bits g i S wr ∧ Below g w wr) (fun uu _ _ => (intOf uu).toNat)
  case atStart =>
    refine ⟨u, 65, 16, [], rfl, rfl, by omega, rfl, rfl, by simpa using hu, by simp [hexV], ⟨Tryz.zeroCells143, ?_, by decide, by simp⟩, ?_⟩
    · rw [← HG.out]; exact heap_alloc_new _ _
    · rw [← HG.out]; exact (Below.refl _ _).alloc (Nat.le_refl _) _
  case round =>
    obtain ⟨v, i, f, S, rfl, rfl, hf, hfS, hiS, hv, hE, ⟨arr, ha, hsz, hS⟩, hb⟩ := hrel
    have HE := Lib.hid hE
    have HS := Lib.hid hS
    have HB := Lib.hid hb
    have HA := Lib.hid ha
    have hi0 : 49 ≤ i := by omega
    have hi65 : i ≤ 65 := by omega
    have hvv : v < 18446744073709551616 := Nat.lt_of_lt_of_le hv (by
      have : 16 ^ f ≤ 16 ^ 16 := Nat.pow_le_pow_right (by omega) (by omega)
      exact this)
    have hcell : wr.cell? ⟨g, i - 1, none⟩ = some arr[i - 1] := by
      simp only [World.cell?, ha]
      rw [Array.getElem?_eq_getElem (by omega)]; rfl
    have hfz : wr.frozen? ⟨g, i - 1, none⟩ = false := by simp [World.frozen?, ha]
    obtain ⟨c0, hc0⟩ : ∃ c0, arr[i - 1] = c0 := ⟨_, rfl⟩
    rw [hc0] at hcell
    have ei : (i : Int) - 1 = ((i - 1 : Nat) : Int) := by omega
    have i2 : ((i - 1 : Nat) : Int) < 65 := by omega
    clear hE hS hb ha hc0
    by_cases h16 : 16 ≤ v
    · obtain ⟨q, hq⟩ : ∃ q, v % 16 = q := ⟨_, rfl⟩
      have hand := and15 v hvv
      rw [hq] at hand
      have hq16 : q < 16 := by omega
      have hqi : (q : Int) < 36 := by omega
      have hq36 : q < 36 := by omega
      have HQ := Lib.hid hq
      clear hq
      go_wp2_with fail
      go_roundw
      case rel =>
        have HBits := Bits.set (g := g) (S := S) (X := wr) ⟨arr, HA.out, hsz, HS.out⟩ (by omega) hi65 (hexc q)
        refine ⟨v / 16, i - 1, f - 1, hexc q :: S, by norm_cast, rfl, ?_, by simp; omega, by simp; omega, ?_, ?_, ?_, ?_⟩
        · have : ¬ v < 16 := by omega
          rcases Nat.lt_or_ge 1 f with h | h
          · omega
          · have : f = 1 := by omega
            subst this
            omega
        · obtain ⟨f', rfl⟩ : ∃ f', f = f' + 1 := ⟨f - 1, by omega⟩
          rw [Nat.pow_succ] at hv
          rw [Nat.add_sub_cancel, Nat.div_lt_iff_lt_mul (by omega)]
          exact hv
        · obtain ⟨f', rfl⟩ : ∃ f', f = f' + 1 := ⟨f - 1, by omega⟩
          rw [HE.out, hexD, if_neg (by omega), HQ.out]
          simp
        · have e : wr.setCell ⟨g, i - 1, none⟩ (.int .u8 (hexc q).toNat) = wr.setCell ⟨g, i - 1, none⟩ (.int .u8 (dig36[q]'(by show q < 36; omega)).toNat) := by rw [dig_at q hq16]
          rw [e] at HBits
          exact HBits
        · exact HB.out.setCell (p := ⟨g, i - 1, none⟩) (Nat.le_refl _) _
      case measure => simp [intOf]; omega
    · have hq16 : v < 16 := by omega
      have hqi : (v : Int) < 36 := by omega
      have hq36 : v < 36 := by omega
      have hsl := slice65 g (i - 1) (by omega)
      have HBits := Bits.set (g := g) (S := S) (X := wr) ⟨arr, HA.out, hsz, HS.out⟩ (by omega) hi65 (hexc v)
      have e : wr.setCell ⟨g, i - 1, none⟩ (.int .u8 (hexc v).toNat) = wr.setCell ⟨g, i - 1, none⟩ (.int .u8 (dig36[v]'(by show v < 36; omega)).toNat) := by rw [dig_at v hq16]
      rw [e] at HBits
      have hcv := run_convert_bytes_back (P := Tryz.prog) (wr.setCell ⟨g, i - 1, none⟩ (.int .u8 (dig36[v]'(by show v < 36; omega)).toNat)) 77 9 5 ⟨g, i - 1, none⟩ (65 - (i - 1)) (hexc v :: S) Tryz.underlying77 Tryz.underlying5 Tryz.underlying9 (fun j hj => by
        rw [Addr.add_lit]
        exact HBits.cell j _ (List.getElem?_eq_getElem hj))
      rw [show (hexc v :: S).length = 65 - (i - 1) by simp; omega] at hcv
      have hV : hexV u = hexc v :: S := by
        obtain ⟨f', rfl⟩ : ∃ f', f = f' + 1 := ⟨f - 1, by omega⟩
        rw [HE.out, hexD, if_pos hq16]; rfl
      rw [← hV] at hcv
      have HV := Lib.hid hV
      unfold dig36 at hcv
      clear HBits e hV
      go_wp2_with fail
      go_ret2
      exact ⟨rfl, by rw [HG.out]; exact HB.out.setCell (p := ⟨g, i - 1, none⟩) (Nat.le_refl _) _⟩
end Go.Proofs.YtoonneminimbfaaGreatDoor
