/- emendlaw07.EditsLong: the walk. -/
import Derived.Test.YtfflfbnnohlipaaFlat
import Derived.Test.YtfflfbnnohlipaaApply
import Derived.Test.YtfflfbnnohlipaaAwake
namespace Go.Proofs.Ytfflfbnnohlipaa
open Go.RowKit
set_option linter.unusedVariables false
set_option linter.unusedSimpArgs false

/-- n bytes 0. -/
def zr (n : Nat) : ByteArray := ⟨(List.replicate n (0 : UInt8)).toArray⟩
theorem zr_size (n : Nat) : (zr n).size = n := by simp [zr, ByteArray.size]

theorem conv_zero (W : World) (g n : Nat) (hg : g = W.heap.size) : (convert 59 9 (.slice (some ⟨g, 0, none⟩) n n)).run Try.prog (W.alloc (.cells (Array.replicate n (Value.int .u8 0)) 5)) =
    .ok (.string (zr n)) (W.alloc (.cells (Array.replicate n (Value.int .u8 0)) 5)) := by
  subst hg
  have := run_convert_bytes_back (P := Try.prog) (W.alloc (.cells (Array.replicate n (Value.int .u8 0)) 5)) 59 9 5 ⟨W.heap.size, 0, none⟩ n (List.replicate n (0 : UInt8)) Try.underlying59 Try.underlying5 Try.underlying9 (fun j hj => by
    rw [Addr.add_lit, Nat.zero_add, cell_of_row _ _ _ _ _ _ (heap_alloc_new W _)]
    simp at hj
    simp [Array.getElem?_replicate, hj])
  rw [List.length_replicate] at this
  exact this

theorem long_fits1 (a b : Nat) : fitsFrom (zr a).size 0 [⟨0, 0, zr b⟩] = true := by simp [fitsFrom, zr_size]
theorem long_fits2 (a b : Nat) : fitsFrom (zr a).size 0 [⟨0, a, zr b⟩] = true := by simp [fitsFrom, zr_size]
theorem long_tot1 (a b : Nat) : totalV (piecesFrom (zr a) 0 [⟨0, 0, zr b⟩]) = a + b := by
  simp [piecesFrom, totalV, zr_size]; omega
theorem long_tot2 (a b : Nat) : totalV (piecesFrom (zr a) 0 [⟨0, a, zr b⟩]) = b := by
  simp [piecesFrom, totalV, zr_size]

theorem long1 (a b : Nat) : ∃ E S, applyE (zr a) [⟨0, 0, zr b⟩] = E ∧ applyB (zr a) [⟨0, 0, zr b⟩] = S ∧ (a + b ≤ 65536 → E = 0 ∧ S.size = a + b) ∧ (¬ a + b ≤ 65536 → E = 3) := by
  refine ⟨_, _, rfl, rfl, fun h => ?_, fun h => ?_⟩
  · have e : applyE (zr a) [⟨0, 0, zr b⟩] = 0 := by simp [applyE, long_fits1, long_tot1, h]
    refine ⟨e, ?_⟩
    rw [applyB, if_pos e]
    have := join_len (piecesFrom (zr a) 0 [⟨0, 0, zr b⟩])
    rw [long_tot1] at this
    simpa [ByteArray.size] using this
  · simp [applyE, long_fits1, long_tot1, h]
theorem long2 (a b : Nat) : ∃ E S, applyE (zr a) [⟨0, a, zr b⟩] = E ∧ applyB (zr a) [⟨0, a, zr b⟩] = S ∧ (b ≤ 65536 → E = 0 ∧ S.size = b) ∧ (¬ b ≤ 65536 → E = 3) := by
  refine ⟨_, _, rfl, rfl, fun h => ?_, fun h => ?_⟩
  · have e : applyE (zr a) [⟨0, a, zr b⟩] = 0 := by simp [applyE, long_fits2, long_tot2, h]
    refine ⟨e, ?_⟩
    rw [applyB, if_pos e]
    have := join_len (piecesFrom (zr a) 0 [⟨0, a, zr b⟩])
    rw [long_tot2] at this
    simpa [ByteArray.size] using this
  · simp [applyE, long_fits2, long_tot2, h]
def longCut (A : Option Addr) (c : Nat) (a b : Nat) : RCut := ⟨0, 0, A, c, [⟨0, a, ⟨#[]⟩, false⟩, ⟨0, 0, zr b, true⟩]⟩
theorem long3 (A : Option Addr) (c a b : Nat) : (a + b ≤ 65536 → flatE (zr a) [longCut A c a b] = 0) ∧ (¬ a + b ≤ 65536 → flatE (zr a) [longCut A c a b] = 3) := by
  have hp1 : partV (zr a) ⟨0, a, ⟨#[]⟩, false⟩ = some ((zr a).extract 0 a) := by
    simp [partV, zr_size]
  have hp2 : partV (zr a) ⟨0, 0, zr b, true⟩ = some (zr b) := by simp [partV]
  have hj : joinP (zr a) (longCut A c a b).parts = some (((zr a).extract 0 a).data.toList ++ (zr b).data.toList) := by
    simp [joinP, longCut, hp1, hp2]
  have hlen : (((zr a).extract 0 a).data.toList ++ (zr b).data.toList).length = a + b := by
    rw [List.length_append, size_list, size_list, ByteArray.size_extract, zr_size, zr_size]; omega
  constructor
  · intro h
    have : flatL (zr a) [longCut A c a b] = .ok [⟨0, 0, ⟨(((zr a).extract 0 a).data.toList ++ (zr b).data.toList).toArray⟩⟩] := by
      rw [flatL, hj]
      dsimp only
      rw [if_neg (by omega)]
      rfl
    rw [flatE, this]
    dsimp only
    rw [if_pos]
    simp [fitsV, fitsFrom]
  · intro h
    have : flatL (zr a) [longCut A c a b] = .error 3 := flatL_long hj (by omega)
    rw [flatE, this]
theorem long_fine (A : Option Addr) (c a b : Nat) (ha : a ≤ 131071) (hb : b ≤ 131071) : Fine [longCut A c a b] := by
  refine ⟨by simp, fun x hx => ?_⟩
  simp only [List.mem_singleton] at hx
  subst hx
  refine ⟨by simp [longCut], fun p hp => ?_⟩
  simp only [longCut, List.mem_cons, List.not_mem_nil, or_false] at hp
  rcases hp with rfl | rfl
  · exact Nat.zero_le _
  · dsimp only; rw [zr_size]; omega

set_option maxRecDepth 100000 in
set_option maxHeartbeats 6400000 in
theorem lawLong (w : World) (n m : Nat) :
    Calls Try.prog 8 #[.int .u32 n, .int .u32 m] w fun e w' => e = .returned (.bool true) ∧ Below w.heap.size w w' := by
  have hm1 : (n : Int).tmod 131072 = ((n % 131072 : Nat) : Int) := by rw [Int.tmod_eq_emod_of_nonneg (by omega)]; omega
  have hm2 : (m : Int).tmod 131072 = ((m % 131072 : Nat) : Int) := by rw [Int.tmod_eq_emod_of_nonneg (by omega)]; omega
  have ha : n % 131072 ≤ 131071 := by omega
  have hb : m % 131072 ≤ 131071 := by omega
  generalize n % 131072 = a at *
  generalize m % 131072 = b at *
  have hw1 : IntKind.wrap .u32 (a : Int) = a := Go.IntWalk.u32_in _ (by omega)
  have hw2 : IntKind.wrap .u32 (b : Int) = b := Go.IntWalk.u32_in _ (by omega)
  have hw3 : IntKind.wrap .i64 (a : Int) = a := Go.IntWalk.i64_in _ (by omega)
  have hw4 : IntKind.wrap .i64 (b : Int) = b := Go.IntWalk.i64_in _ (by omega)
  have hw5 : IntKind.wrap .i64 ((a : Int) + b) = a + b := Go.IntWalk.i64_in _ (by omega)
  have hmk1 := run_make_bytes (P := Try.prog) 59 5 Try.underlying59 u8_info a (by omega)
  have hmk2 := run_make_bytes (P := Try.prog) 59 5 Try.underlying59 u8_info b (by omega)
  have hcv1 := conv_zero w w.heap.size a rfl
  have hcv2 := conv_zero (w.alloc (.cells (Array.replicate a (Value.int .u8 0)) 5)) (w.heap.size + 1) b (by simp)
  go_enter Try.func8, Try.ntmps8
  obtain ⟨E1, S1, hE1, hS1, p1, q1⟩ := long1 a b
  obtain ⟨E2, S2, hE2, hS2, p2, q2⟩ := long2 a b
  have HE1 := Lib.hid hE1
  have HS1 := Lib.hid hS1
  have HE2 := Lib.hid hE2
  have HS2 := Lib.hid hS2
  have P1 := Lib.hid p1
  have Q1 := Lib.hid q1
  have P2 := Lib.hid p2
  have Q2 := Lib.hid q2
  have Z := Lib.hid (zr_size a)
  have Z' := Lib.hid (zr_size b)
  clear hE1 hS1 hE2 hS2 p1 q1 p2 q2
  have hb0 : Below w.heap.size w ((w.alloc (.cells (Array.replicate a (Value.int .u8 0)) 5)).alloc (.cells (Array.replicate b (Value.int .u8 0)) 5)) := ((Below.refl _ _).alloc (Nat.le_refl _) _).alloc (by simp) _
  have HB0 := Lib.hid hb0
  clear hb0
  have ha2 : (0 : Int) ≤ (a : Int) := by omega
  go_wp2_with (go_at_call 25; refine (of_any _ _ _ _).mono ?_; rintro e w1 ⟨rfl, hb1⟩)
  have r1 : Row (w1.alloc (.cells #[.int .i64 0, .int .i64 0, .string (zr b)] 33)) (w1.alloc (.cells #[.int .i64 0, .int .i64 0, .string (zr b)] 33)).heap.size (some ⟨w1.heap.size, 0, none⟩) [⟨0, 0, zr b⟩] := RowOf.made Spl.len _ _ _ _ rfl _ rfl
  refine (apply_any (some ⟨w1.heap.size, 0, none⟩) 1 [⟨0, 0, zr b⟩] (zr a) _ (by simp) (by rw [long_tot1]; omega) r1).mono ?_
  rintro e w2 ⟨hret1, hb2⟩
  rw [RetApply, HE1.out, HS1.out] at hret1
  subst hret1
  have HB2 := Lib.hid (below_then HB0.out (below_then (hb1.alloc hb1.size _) hb2))
  clear r1 hb1 hb2
  go_wp2_with (go_at_call 25; refine (of_any _ _ _ _).mono ?_; rintro e w3 ⟨rfl, hb3⟩)
  have r3 : Row (w3.alloc (.cells #[.int .i64 0, .int .i64 a, .string (zr b)] 33)) (w3.alloc (.cells #[.int .i64 0, .int .i64 a, .string (zr b)] 33)).heap.size (some ⟨w3.heap.size, 0, none⟩) [⟨0, a, zr b⟩] := RowOf.made Spl.len _ _ _ _ rfl _ rfl
  refine (apply_any (some ⟨w3.heap.size, 0, none⟩) 1 [⟨0, a, zr b⟩] (zr a) _ (by simp) (by rw [long_tot2]; omega) r3).mono ?_
  rintro e w4 ⟨hret2, hb4⟩
  rw [RetApply, HE2.out, HS2.out] at hret2
  subst hret2
  have HB4 := Lib.hid (below_then HB2.out (below_then (hb3.alloc hb3.size _) hb4))
  clear r3 hb3 hb4
  go_wp2_with fail
  have d1 : RowOf Prt.cells 4 (w4.alloc (.cells #[.int .i64 0, .int .i64 a, .string ⟨#[]⟩, .bool false, .int .i64 0, .int .i64 0, .string (zr b), .bool true] 62)) _ (some ⟨w4.heap.size, 0, none⟩) [⟨0, a, ⟨#[]⟩, false⟩, ⟨0, 0, zr b, true⟩] := RowOf.made Prt.len _ _ _ _ rfl _ rfl
  have r5 : RowOf RCut.cells 3 ((w4.alloc (.cells #[.int .i64 0, .int .i64 a, .string ⟨#[]⟩, .bool false, .int .i64 0, .int .i64 0, .string (zr b), .bool true] 62)).alloc (.cells #[.int .i64 0, .int .i64 0, .slice (some ⟨w4.heap.size, 0, none⟩) 2 2] 65)) _ (some ⟨w4.heap.size + 1, 0, none⟩) [longCut (some ⟨w4.heap.size, 0, none⟩) 2 a b] := RowOf.made RCut.len _ _ _ _ rfl _ (by simp)
  refine (flat_any (zr a) (some ⟨w4.heap.size + 1, 0, none⟩) 1 [longCut (some ⟨w4.heap.size, 0, none⟩) 2 a b] _ (by rw [zr_size]; omega) (long_fine _ _ a b ha hb) r5 (fun x hx => by
    simp only [List.mem_singleton] at hx
    subst hx
    exact d1.after (Nat.le_refl _) ((Below.refl _ _).alloc (Nat.le_refl _) _))).mono ?_
  rintro e w5 ⟨hret3, hb5⟩
  have HB5 := Lib.hid (below_then HB4.out (below_then (((Below.refl _ _).alloc (Nat.le_refl _) _).alloc (by simp) _) hb5))
  have hfin : ∃ A k c E3, e = .returned (.tuple #[.slice A k c, .int .i64 E3]) ∧ (a + b ≤ 65536 → E3 = 0) ∧ (¬ a + b ≤ 65536 → E3 = 3) := by
    obtain ⟨u1, u2⟩ := long3 (some ⟨w4.heap.size, 0, none⟩) 2 a b
    rcases hret3 with ⟨he, A, c, rfl, _⟩ | ⟨he, rfl⟩
    · refine ⟨A, _, c, 0, rfl, fun _ => rfl, fun h => ?_⟩
      rw [u2 h] at he
      cases he
    · exact ⟨none, 0, 0, _, rfl, u1, u2⟩
  obtain ⟨A3, k3, c3, E3, rfl, p3, q3⟩ := hfin
  clear hret3 hb5 d1 r5
  have P3 := Lib.hid p3
  have Q3 := Lib.hid q3
  clear p3 q3
  by_cases c1 : a + b ≤ 65536
  · have c2 : b ≤ 65536 := by omega
    obtain ⟨rfl, hs1⟩ := P1.out c1
    obtain ⟨rfl, hs2⟩ := P2.out c2
    obtain rfl := P3.out c1
    have d1 : (a : Int) + b ≤ 65536 := by omega
    have d2 : (b : Int) ≤ 65536 := by omega
    clear c1 c2
    go_wp2_with (go_at_call 14; refine (awake_any _).mono ?_; rintro e w6 ⟨rfl, hb6⟩)
    go_ret
    exact ⟨rfl, below_then HB5.out hb6⟩
  · obtain rfl := Q1.out c1
    obtain rfl := Q3.out c1
    have d1 : ¬ (a : Int) + b ≤ 65536 := by omega
    by_cases c2 : b ≤ 65536
    · obtain ⟨rfl, hs2⟩ := P2.out c2
      have d2 : (b : Int) ≤ 65536 := by omega
      clear c1 c2
      go_wp2_with (go_at_call 14; refine (awake_any _).mono ?_; rintro e w6 ⟨rfl, hb6⟩)
      go_ret
      exact ⟨rfl, below_then HB5.out hb6⟩
    · obtain rfl := Q2.out c2
      have d2 : ¬ (b : Int) ≤ 65536 := by omega
      clear c1 c2
      go_wp2_with (go_at_call 14; refine (awake_any _).mono ?_; rintro e w6 ⟨rfl, hb6⟩)
      go_ret
      exact ⟨rfl, below_then HB5.out hb6⟩
end Go.Proofs.Ytfflfbnnohlipaa
