/- emendlaw07.EditsKeeps: the walk. -/
import Derived.Test.YtfflfbnnohlipaaLawMoves
import Derived.Test.YtfflfbnnohlipaaPlace
import Derived.Test.YtfflfbnnohlipaaCut
namespace Go.Proofs.Ytfflfbnnohlipaa
open Go.RowKit
set_option linter.unusedVariables false
set_option linter.unusedSimpArgs false

theorem fits_max {n : Int} : ∀ (l : List Spl) (u : Int), fitsFrom n u l = true → fitsFrom (maxTo l u) u l = true := by
  intro l
  induction l with
  | nil => intro u _; simp [fitsFrom]
  | cons x l ih =>
    intro u hf
    rw [fitsFrom] at hf
    split at hf
    · cases hf
    · simp only [maxTo]
      rw [show (if u < x.to then x.to else u) = x.to by split <;> omega]
      have h1 := maxTo_ge l x.to
      rw [fitsFrom, if_neg (by omega)]
      exact ih _ hf

theorem total_small {text : ByteArray} {m : List Spl} (hm : m.length ≤ 30) (hs : Small m) (hf : fitsFrom text.size 0 m = true) : totalV (piecesFrom text 0 m) ≤ text.size + 9000 := by
  have h1 := (made_is text m 0 hf (Nat.zero_le _)).1
  have h2 := (shift_bd (p := text.size) m 0 hf hs).2
  rw [join_len] at h1
  omega

theorem apply_small (A : Option Addr) (c : Nat) (m : List Spl) (text : ByteArray) (w : World) (hm : m.length ≤ 30) (hs : Small m) (ht : text.size ≤ 100000) (hr : Row w w.heap.size A m) :
    Calls Try.prog 16 #[.string text, .slice A m.length c] w fun e w' => RetApply text m e ∧ Below w.heap.size w w' := by
  cases hf : fitsFrom text.size 0 m
  · have hc := check_any text.size A c m w (by omega) hr
    rw [checkV_bad hf] at hc
    have HC := Lib.hid hc
    have HF := Lib.hid hf
    clear hf hc hm hs
    go_enter Try.func16, Try.ntmps16
    go_wp2_with (go_at_call 18; refine HC.out.mono ?_; rintro e w1 ⟨rfl, hb1⟩)
    go_ret2
    exact ⟨ret_unfit HF.out, hb1⟩
  · exact apply_any A c m text w (by omega) (by have := total_small hm hs hf; omega) hr

/-- What a round of EditsKeeps meets at a byte. -/
theorem keeps_round {text : ByteArray} {m : List Spl} {k : Nat} (he : applyE text m = 0) (hm : m.length ≤ 30) (hs : Small m) (ht : text.size ≤ 1500) (hk : k < text.size) :
    (goodAt m k = false ∧ cntK m 0 (k + 1) = cntK m 0 k ∧ addV m (k : Int) ≤ addV m ((k + 1 : Nat) : Int)) ∨
    (goodAt m k = true ∧ cntK m 0 (k + 1) = cntK m 0 k + 1 ∧ addV m (k : Int) ≤ addV m ((k + 1 : Nat) : Int) ∧ ∃ q : Nat, movedI m k = (q : Int) ∧ q = cntK m 0 k + addV m k ∧ q < (applyB text m).size ∧ (applyB text m).data.toList[q]? = text.data.toList[k]?) := by
  have hf : fitsFrom text.size 0 m = true := by
    unfold applyE at he
    split at he
    · assumption
    · cases he
  have hfm : fitsV (maxTo m 0) m = true := by
    have h1 : fitsFrom (maxTo m 0) 0 m = true := fits_max m 0 hf
    have h2 := maxTo_ge m 0
    simp [fitsV, h1]; omega
  have hmono := addV_mono m (p := (k : Int)) (q := ((k + 1 : Nat) : Int)) (by omega)
  have hstep : cntK m 0 (k + 1) = cntK m 0 k + (if keptV m ((0 + k : Nat) : Int) then 1 else 0) := rfl
  rw [Nat.zero_add] at hstep
  cases hkv : keptV m (k : Int)
  · exact .inl ⟨bad_kept hkv, by rw [hstep, hkv]; rfl, hmono⟩
  · have hg := good_all (l := m) (p := (k : Int)) (by omega) (by omega) hfm hkv
    refine .inr ⟨hg, by rw [hstep, hkv]; rfl, hmono, ?_⟩
    obtain ⟨q, q1, q2, q3⟩ := (made_is text m 0 hf (Nat.zero_le _)).2 k (Nat.zero_le _) hk hkv
    have hp := place_is m 0 k hf (Nat.zero_le _) hkv
    have hB : (applyB text m).data.toList = joinV (piecesFrom text 0 m) := by simp [applyB, he]
    refine ⟨q, ?_, ?_, ?_, ?_⟩
    · simp only [movedI, hg, if_true]; omega
    · simp only [Nat.sub_zero] at hp; omega
    · rw [← size_list, hB]; exact q2
    · rw [hB]; exact q3

theorem cnt_le (l : List Spl) (a b : Nat) : cntK l a b ≤ b := by
  induction b with
  | zero => simp [cntK]
  | succ b ih => simp only [cntK]; split <;> omega

/-- How many bytes the Texts have. -/
def textsV : List Spl → Nat
  | [] => 0
  | x :: r => x.text.size + textsV r
theorem addV_all {n : Int} : ∀ (l : List Spl) (u : Int), fitsFrom n u l = true → addV l n = textsV l := by
  intro l
  induction l with
  | nil => intro u _; rfl
  | cons x l ih =>
    intro u hf
    rw [fitsFrom] at hf
    split at hf
    · cases hf
    · simp only [addV, textsV, ih _ hf]
      rw [if_pos (by omega)]
theorem kept_end {n : Int} : ∀ (l : List Spl) (u : Int), fitsFrom n u l = true → keptV l n = true := by
  intro l
  induction l with
  | nil => intro u _; rfl
  | cons x l ih =>
    intro u hf
    rw [fitsFrom] at hf
    split at hf
    · cases hf
    · rw [kept_cons, ih _ hf]
      have : ¬ n < x.to := by omega
      simp [this]
theorem texts_take {l : List Spl} {k : Nat} {x : Spl} (hx : l[k]? = some x) : textsV (l.take (k + 1)) = textsV (l.take k) + x.text.size := by
  rw [take_snoc hx]
  generalize l.take k = a
  induction a with
  | nil => simp [textsV]
  | cons y a ih => simp only [List.cons_append, textsV, ih]; omega
theorem texts_le {l : List Spl} (hs : Small l) : textsV l ≤ 300 * l.length := by
  induction l with
  | nil => simp [textsV]
  | cons x l ih =>
    have h1 := hs x (List.mem_cons_self ..)
    have h2 := ih fun y hy => hs y (List.mem_cons_of_mem _ hy)
    simp only [textsV, List.length_cons]
    omega

/-- What EditsKeeps meets at the end. -/
theorem keeps_end {text : ByteArray} {m : List Spl} (he : applyE text m = 0) (hm : m.length ≤ 30) (hs : Small m) (ht : text.size ≤ 1500) :
    goodAt m text.size = true ∧ movedI m text.size = ((applyB text m).size : Int) ∧ cntK m 0 text.size + textsV m = (applyB text m).size := by
  have hf : fitsFrom text.size 0 m = true := by
    unfold applyE at he
    split at he
    · assumption
    · cases he
  have hfm : fitsV (maxTo m 0) m = true := by
    have h1 : fitsFrom (maxTo m 0) 0 m = true := fits_max m 0 hf
    have h2 := maxTo_ge m 0
    simp [fitsV, h1]; omega
  have hkv := kept_end m 0 hf
  have hg := good_all (l := m) (p := (text.size : Int)) (by omega) (by omega) hfm hkv
  have h1 := (made_is text m 0 hf (Nat.zero_le _)).1
  have hB : (applyB text m).data.toList = joinV (piecesFrom text 0 m) := by simp [applyB, he]
  have hp := place_is m 0 text.size hf (Nat.zero_le _) hkv
  rw [← hB, size_list] at h1
  rw [addV_all m 0 hf] at hp
  refine ⟨hg, ?_, ?_⟩
  · simp only [movedI, hg, if_true]; omega
  · simp only [Nat.sub_zero] at hp; omega

end Go.Proofs.Ytfflfbnnohlipaa
