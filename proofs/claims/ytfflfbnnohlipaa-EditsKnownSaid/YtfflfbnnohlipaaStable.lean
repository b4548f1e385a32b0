/- slices.stableCmpFunc, SortStableFunc at at most 40 splices; edits.Sort. -/
import Derived.Test.YtfflfbnnohlipaaSymAny
import Derived.Test.YtfflfbnnohlipaaRefSort
namespace Go.Proofs.Ytfflfbnnohlipaa
open Go.RowKit
set_option linter.unusedVariables false
set_option linter.unusedSimpArgs false
variable {K : Nat → Spl} {w w' : World} {g n : Nat} {t : Nat → Nat}

/-- In order from the one end to the other. -/
theorem Merged.all_id {t t' : Nat → Nat} {n : Nat} (h : Merged t t' 0 n) (hl : ∀ k, k < n → t k < n) : ∀ k, k < n → t' k = k :=
  asc_id h.asc (Img.bound h.img (Nat.le_refl _) hl)

theorem Merged.img_bound {t t' : Nat → Nat} {a b n N : Nat} (h : Merged t t' a b) (hb : b ≤ n) (hl : ∀ k, k < n → t k < N) : ∀ k, k < n → t' k < N := Img.bound h.img hb hl

/-- The two blocks, each in order. -/
theorem halves_of {ix t u v : Nat → Nat} {m n : Nat} (hm : m ≤ n) (hix : ∀ p q, p < q → q < n → ix (t p) < ix (t q)) (h1 : Merged t u 0 m) (h2 : Merged u v m n) : Halves ix v 0 m n := by
  refine ⟨fun i j a b c => ?_, h2.asc, fun p q a b c d => ?_⟩
  · rw [h2.img.2 i (by omega), h2.img.2 j (by omega)]; exact h1.asc _ _ a b c
  · rw [h2.img.2 p (by omega)]
    obtain ⟨k1, _, b1, e1⟩ := h1.img.1 p (Nat.zero_le _) b
    obtain ⟨k2, a2, b2, e2⟩ := h2.img.1 q c d
    rw [e1, e2, h1.img.2 k2 (by omega)]
    exact hix _ _ (by omega) b2

/-- Block g holds K 0, K 1 .. -/
def Sorted (K : Nat → Spl) (g n : Nat) (w' : World) : Prop := Arr K w' g (fun k => k) n

set_option maxRecDepth 1000000 in
set_option maxHeartbeats 3200000 in
theorem stable_few (c : Nat) (ix : Nat → Nat) (hT : Tells K ix n) (hn : n < 20) (hlt : ∀ k, k < n → t k < n) (hix : ∀ p q, p < q → q < n → ix (t p) < ix (t q)) (h : Arr K w g t n) :
    Calls Try.prog 50 #[.slice (some ⟨g, 0, none⟩) n c, .int .i64 n, .func (.func 43) #[] #[]] w fun e w' => e = .returned (.tuple #[]) ∧ Sorted K g n w' ∧ But g w w' := by
  have HA := Lib.hid h
  have HX := Lib.hid hix
  have HT := Lib.hid hT
  have HL := Lib.hid hlt
  have d1 : decide ((20 : Int) ≤ (n : Int)) = false := by simp; omega
  have d2 : ¬ (20 : Int) ≤ (n : Int) := by omega
  have d3 : ¬ (20 : Int) < (n : Int) := by omega
  clear h hix hT hlt
  go_enter Try.func50, Try.ntmps50
  go_wp2_with fail
  go_loopw [7, 8] (fun u v wr => u = .int .i64 0 ∧ v = .int .i64 20 ∧ wr = w) (fun _ _ _ => 0)
  case atStart => exact ⟨rfl, rfl, rfl⟩
  case round =>
    obtain ⟨rfl, rfl, rfl⟩ := hrel
    go_wp2_with fail
    refine (insertion_any (K := K) _ 0 n n ix HT.out (by omega) (Nat.zero_le _) (Nat.le_refl _) HL.out (fun p q _ h2 h3 => HX.out p q h2 h3) HA.out).mono ?_
    rintro e w1 ⟨rfl, ⟨t1, hm1, ha1⟩, hb1⟩
    have HM1 := Lib.hid hm1
    have HA1 := Lib.hid ha1
    have HB1 := Lib.hid hb1
    clear hm1 ha1 hb1
    go_wp2_with fail
    go_loopw [6] (fun u wr => u = .int .i64 20 ∧ wr = w1) (fun _ _ => 0)
    case atStart => exact ⟨rfl, rfl⟩
    case round =>
      obtain ⟨rfl, rfl⟩ := hrel
      go_wp2_with fail
      go_end0
      exact ⟨rfl, HA1.out.same (fun k hk => (HM1.out.all_id HL.out k hk).symm), HB1.out⟩

set_option maxRecDepth 1000000 in
set_option maxHeartbeats 3200000 in
theorem stable_many (c : Nat) (ix : Nat → Nat) (hT : Tells K ix n) (hn : 20 ≤ n) (hn2 : n < 40) (hlt : ∀ k, k < n → t k < n) (hix : ∀ p q, p < q → q < n → ix (t p) < ix (t q)) (h : Arr K w g t n) :
    Calls Try.prog 50 #[.slice (some ⟨g, 0, none⟩) n c, .int .i64 n, .func (.func 43) #[] #[]] w fun e w' => e = .returned (.tuple #[]) ∧ Sorted K g n w' ∧ But g w w' := by
  have HA := Lib.hid h
  have HX := Lib.hid hix
  have HT := Lib.hid hT
  have HL := Lib.hid hlt
  have d2 : (20 : Int) ≤ (n : Int) := by omega
  have d3 : ¬ (40 : Int) ≤ (n : Int) := by omega
  clear h hix hT hlt
  go_enter Try.func50, Try.ntmps50
  go_wp2_with fail
  go_loopw [7, 8] (fun u v wr => (u = .int .i64 0 ∧ v = .int .i64 20 ∧ wr = w) ∨ (u = .int .i64 20 ∧ v = .int .i64 40 ∧ Ordered K g n t 0 20 wr ∧ But g w wr)) (fun _ v _ => 40 - (intOf v).toNat)
  case atStart => exact .inl ⟨rfl, rfl, rfl⟩
  case round =>
    rcases hrel with ⟨rfl, rfl, rfl⟩ | ⟨rfl, rfl, ⟨t1, hm1, ha1⟩, hb1⟩
    · go_wp2_with fail
      refine (insertion_any (K := K) _ 0 20 n ix HT.out (by omega) (Nat.zero_le _) hn HL.out (fun p q _ h2 h3 => HX.out p q h2 (by omega)) HA.out).mono ?_
      rintro e w1 ⟨rfl, hm1, hb1⟩
      have HM1 := Lib.hid hm1
      have HB1 := Lib.hid hb1
      clear hm1 hb1
      go_wp2_with fail
      go_roundw
      case rel => exact .inr ⟨rfl, rfl, HM1.out, HB1.out⟩
      case measure => simp [intOf]
    · have HM1 := Lib.hid hm1
      have HA1 := Lib.hid ha1
      have HB1 := Lib.hid hb1
      clear hm1 ha1 hb1
      go_wp2_with fail
      refine (insertion_any (K := K) _ 20 n n ix HT.out (by omega) hn (Nat.le_refl _) (HM1.out.img_bound hn HL.out) (fun p q h1 h2 h3 => by rw [HM1.out.img.2 p (by omega), HM1.out.img.2 q (by omega)]; exact HX.out p q h2 h3) HA1.out).mono ?_
      rintro e w2 ⟨rfl, ⟨t2, hm2, ha2⟩, hb2⟩
      have HM2 := Lib.hid hm2
      have HA2 := Lib.hid ha2
      have HB2 := Lib.hid (HB1.out.trans hb2)
      clear hm2 ha2 hb2
      have HH := Lib.hid (halves_of hn HX.out HM1.out HM2.out)
      have HL2 := Lib.hid (HM2.out.img_bound (Nat.le_refl _) (HM1.out.img_bound hn HL.out))
      by_cases h20 : n = 20
      · have HE := Lib.hid (asc_id (HH.out.one (by omega)) HL2.out)
        have d4 : ¬ (20 : Int) < (n : Int) := by omega
        clear h20
        go_wp2_with fail
        go_loopw [6] (fun u wr => u = .int .i64 20 ∧ wr = w2) (fun _ _ => 0)
        case atStart => exact ⟨rfl, rfl⟩
        case round =>
          obtain ⟨rfl, rfl⟩ := hrel
          go_wp2_with fail
          go_end0
          exact ⟨rfl, HA2.out.same (fun k hk => (HE.out k hk).symm), HB2.out⟩
      · have d4 : (20 : Int) < (n : Int) := by omega
        have d5 : ¬ (40 : Int) < (n : Int) := by omega
        go_wp2_with fail
        go_loopw [6, 7, 8, 9] (fun u x y z wr => (u = .int .i64 20 ∧ wr = w2) ∨ (u = .int .i64 40 ∧ Sorted K g n wr ∧ But g w wr)) (fun u _ _ _ _ => 40 - (intOf u).toNat)
        case atStart => exact .inl ⟨rfl, rfl⟩
        case round =>
          rcases hrel with ⟨rfl, rfl⟩ | ⟨rfl, hs, hb⟩
          · go_wp2_with fail
            go_loopw [7, 8] (fun u v wx => u = .int .i64 0 ∧ v = .int .i64 40 ∧ wx = wr) (fun _ _ _ => 0)
            case atStart => exact ⟨rfl, rfl, rfl⟩
            case round =>
              obtain ⟨rfl, rfl, rfl⟩ := hrel
              go_wp2_with fail
              refine (sym_any (K := K) n ix HT.out (by omega) n _ 0 20 n t2 _ (by omega) (by omega) (by omega) (Nat.le_refl _) HL2.out HH.out HA2.out).mono ?_
              rintro e w3 ⟨rfl, ⟨t3, hm3, ha3⟩, hb3⟩
              have HS := Lib.hid (show Sorted K g n w3 from ha3.same (fun k hk => (hm3.all_id HL2.out k hk).symm))
              have HB3 := Lib.hid (HB2.out.trans hb3)
              clear hm3 ha3 hb3
              go_wp2_with fail
              go_roundw
              case rel => exact .inr ⟨rfl, HS.out, HB3.out⟩
              case measure => simp [intOf]
          · have HS := Lib.hid hs
            have HB := Lib.hid hb
            clear hs hb
            go_wp2_with fail
            go_end0
            exact ⟨rfl, HS.out, HB.out⟩

theorem stable_any (c : Nat) (ix : Nat → Nat) (hT : Tells K ix n) (hn2 : n < 40) (hlt : ∀ k, k < n → t k < n) (hix : ∀ p q, p < q → q < n → ix (t p) < ix (t q)) (h : Arr K w g t n) :
    Calls Try.prog 50 #[.slice (some ⟨g, 0, none⟩) n c, .int .i64 n, .func (.func 43) #[] #[]] w fun e w' => e = .returned (.tuple #[]) ∧ Sorted K g n w' ∧ But g w w' := by
  rcases Nat.lt_or_ge n 20 with hc | hc
  · exact stable_few c ix hT hc hlt hix h
  · exact stable_many c ix hT hc hn2 hlt hix h

set_option maxHeartbeats 800000 in
theorem sortStable_any (c : Nat) (ix : Nat → Nat) (hT : Tells K ix n) (hn2 : n < 40) (hlt : ∀ k, k < n → t k < n) (hix : ∀ p q, p < q → q < n → ix (t p) < ix (t q)) (h : Arr K w g t n) :
    Calls Try.prog 42 #[.slice (some ⟨g, 0, none⟩) n c, .func (.func 43) #[] #[]] w fun e w' => e = .returned (.tuple #[]) ∧ Sorted K g n w' ∧ But g w w' := by
  have HC := Lib.hid (stable_any (w := w) c ix hT hn2 hlt hix h)
  clear h hix hT hlt
  go_enter Try.func42, Try.ntmps42
  go_wp2_with fail
  refine HC.out.mono ?_
  rintro e w1 ⟨rfl, ha, hb⟩
  have HS := Lib.hid ha
  have HB := Lib.hid hb
  clear ha hb
  go_wp2_with fail
  go_end0
  exact ⟨rfl, HS.out, HB.out⟩
end Go.Proofs.Ytfflfbnnohlipaa
