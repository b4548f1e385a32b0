/- emendlaw01.awake. -/
import Derived.Test.YtoonneminimbfaaGreatDoorShow
import Derived.Test.YtoonneminimbfaaGreatDoorArith
import Derived.Lib.SmallJoins
namespace Go.Proofs.YtoonneminimbfaaGreatDoor
open Go.RowKit
set_option linter.unusedVariables false
set_option linter.unusedSimpArgs false

theorem below_grow (w : World) (k : Nat) (os : Array Obj) : Below w.heap.size w (Sort.grow (w.drewN k) os) := by
  refine ⟨rfl, rfl, rfl, ?_, fun j hj => ?_⟩
  · show w.heap.size ≤ (w.heap ++ os).size
    simp
  · show (w.heap ++ os)[j]? = _
    rw [Array.getElem?_append_left hj]

/-- What the library's variables hold that are read in this seat's laws. -/
structure Glob (w : World) : Prop where
  knows : Knows w
  trail : w.cell? ⟨12, 15, none⟩ = some (.int .u8 4)
  tens : Lib.TabIs Tryz.prog w "internal/strconv.uint64pow10" .u64 Lib.pow10Tab

theorem Knows.below {w w' : World} (h : Knows w) (hb : Below w.heap.size w w') : Knows w' := by
  obtain ⟨⟨m, hm⟩, h1, h2, ⟨pb, po, c, h3, h4⟩⟩ := h
  exact ⟨⟨m, Below.at_ hb hm⟩, Below.at_ hb h1, Below.at_ hb h2, ⟨pb, po, c, Below.at_ hb h3, Below.at_ hb h4⟩⟩
theorem Glob.below {w w' : World} (h : Glob w) (hb : Below w.heap.size w w') : Glob w' := by
  refine ⟨h.knows.below hb, Below.at_ hb h.trail, ?_⟩
  have ht := h.tens
  unfold Lib.TabIs World.var? at ht ⊢
  cases hg : Tryz.prog.globalNamed "internal/strconv.uint64pow10" with
  | none => rw [hg] at ht; simp at ht
  | some g =>
    rw [hg] at ht
    simp only [Option.bind_some] at ht ⊢
    have hlt : g < w.heap.size := by
      rcases Nat.lt_or_ge g w.heap.size with h | h
      · exact h
      · rw [Array.getElem?_eq_none h] at ht; simp at ht
    rw [hb.block g hlt]
    exact ht

theorem natural_42 : natV [52, 50] = true := by decide
set_option maxRecDepth 1000000 in
set_option maxHeartbeats 1600000 in
theorem int42 (w : World) : Calls Tryz.prog 13 #[.string ⟨#[52, 50]⟩] w fun e w' => e = .returned (.tuple #[.int .i64 42, .int .i64 0]) ∧ Below w.heap.size w w' := by
  have HN := Lib.hid (natural_any ⟨#[52, 50]⟩ w (by decide))
  rw [show (⟨#[52, 50]⟩ : ByteArray).data.toList = [52, 50] from rfl, natural_42] at HN
  have HP := Lib.hid (Tryz.strconv_ParseInt_10_at64_ok ⟨#[52, 50]⟩ (by decide) 42 (by decide) w)
  go_enter Tryz.func13, Tryz.ntmps13
  go_wp2_with (first | (go_at_call 51; refine HN.out.mono ?_; rintro e w' ⟨rfl, rfl⟩) | (go_at_call 52; refine HP.out.mono ?_; rintro e w1 ⟨rfl, hw1⟩))
  go_ret2
  refine ⟨rfl, ?_⟩
  rcases hw1 with rfl | ⟨t, rfl⟩
  · exact Below.refl _ _
  · exact Go.Joins.below_bytesWorld _ _ _ _ (Nat.le_refl _)

theorem natural_1 : natV [49] = true := by decide
theorem digits_5 : digN [53] = 1 := by decide
set_option maxRecDepth 1000000 in
set_option maxHeartbeats 1600000 in
theorem floating15 (w : World) (h : Knows w) : Calls Tryz.prog 54 #[.string ⟨#[49, 46, 53]⟩] w fun e w' => e = .returned (.bool true) ∧ ∃ n, w' = w.drewN n := by
  obtain ⟨m, hm⟩ := h.maxlen
  have HC := Lib.hid (Tryz.strings_Cut ⟨#[49, 46, 53]⟩ ⟨#[46]⟩ m w (by decide) hm)
  rw [show Lib.cut (⟨#[49, 46, 53]⟩ : ByteArray).data.toList (⟨#[46]⟩ : ByteArray).data.toList = ([49], [53], true) by decide] at HC
  have HN := Lib.hid (fun W => natural_any ⟨#[49]⟩ W (by decide))
  rw [show (⟨#[49]⟩ : ByteArray).data.toList = [49] from rfl, natural_1] at HN
  have HD := Lib.hid (fun W => digits_any ⟨#[53]⟩ W (by decide))
  rw [show (⟨#[53]⟩ : ByteArray).data.toList = [53] from rfl, digits_5] at HD
  have HX := Lib.hid (fun W => Tryz.strings_CutPrefix ByteArray.empty ⟨#[101]⟩ W)
  rw [show Lib.trimPrefix ByteArray.empty.data.toList (⟨#[101]⟩ : ByteArray).data.toList = [] by decide, show Lib.hasPrefix ByteArray.empty.data.toList (⟨#[101]⟩ : ByteArray).data.toList = false by decide] at HX
  go_enter Tryz.func54, Tryz.ntmps54
  go_wp2_with fail
  refine HC.out.mono ?_
  rintro e w1 ⟨rfl, n, rfl⟩
  go_wp2_with (first | (go_at_call 51; go_loud (refine (HN.out _).mono ?_); rintro e w' ⟨rfl, rfl⟩) | (go_at_call 80; go_loud (refine (HD.out _).mono ?_); rintro e w' ⟨rfl, rfl⟩) | (go_at_call 85; go_loud (refine (HX.out _).mono ?_); rintro e w' ⟨rfl, rfl⟩))
  go_ret
  exact ⟨rfl, n, rfl⟩

set_option maxRecDepth 1000000 in
set_option maxHeartbeats 1600000 in
theorem float15 (w : World) (h : Knows w) : Calls Tryz.prog 15 #[.string ⟨#[49, 46, 53]⟩] w fun e w' => e = .returned (.tuple #[.float .f64 4609434218613702656, .int .i64 0]) ∧ Below w.heap.size w w' := by
  have HF := Lib.hid (floating15 w h)
  have HP := Lib.hid (show ∀ n, Calls Tryz.prog 55 #[.string ⟨#[49, 46, 53]⟩, .int .i64 64] (w.drewN n) fun e w' => e = .returned (.tuple #[.float .f64 4609434218613702656, .nilIface]) ∧ ∃ m, w' = (w.drewN n).drewN m from fun n => parseFloat15 _ ⟨h.maxlen, h.width, h.ways, h.pows⟩)
  clear h
  go_enter Tryz.func15, Tryz.ntmps15
  go_wp2_with (first | (go_at_call 54; refine HF.out.mono ?_; rintro e w' ⟨rfl, n, rfl⟩) | (go_at_call 55; refine (HP.out n).mono ?_; rintro e w1 ⟨rfl, m, rfl⟩))
  go_ret2
  exact ⟨rfl, ⟨rfl, rfl, rfl, Nat.le_refl _, fun _ _ => rfl⟩⟩

theorem text_any (n : Int) (h0 : -9223372036854775808 ≤ n) (h1 : n ≤ 9223372036854775807) (w : World) (h : Glob w) :
    Calls Tryz.prog 19 #[.int .i64 n] w fun e w' => e = .returned (.string ⟨(Lib.itoa n).toArray⟩) ∧ Below w.heap.size w w' := by
  have HP := Lib.hid (Tryz.strconv_FormatInt_10 n h0 h1 w h.tens)
  clear h
  go_enter Tryz.func19, Tryz.ntmps19
  go_wp2_with (go_at_call 62; refine HP.out.mono ?_; rintro e w' ⟨rfl, k, os, rfl⟩)
  go_ret
  exact ⟨rfl, below_grow _ _ _⟩

/-- Is one float below another? -/
def fltB (a b : Nat) : Bool := FloatKind.f64.format.order a b == some .lt
theorem fless_any (a b : Nat) (w : World) : Calls Tryz.prog 25 #[.float .f64 a, .float .f64 b] w fun e w' => e = .returned (.bool (fltB a b)) ∧ w = w' := by
  go_enter Tryz.func25, Tryz.ntmps25
  go_wp2
  go_ret
  exact ⟨rfl, rfl⟩

theorem nan15 : nanB 4609434218613702656 = false := by decide
theorem wide15 : wide 4609434218613702656 = ⟨#[51, 102, 102, 56, 48, 48, 48, 48, 48, 48, 48, 48, 48, 48, 48, 48]⟩ := by decide
theorem flt15 : fltB 4607182418800017408 4609434218613702656 = true := by decide
theorem itoa5 : (⟨(Lib.itoa (-5)).toArray⟩ : ByteArray) = ⟨#[45, 53]⟩ := by decide +kernel

set_option maxRecDepth 1000000 in
set_option maxHeartbeats 1600000 in
theorem awake_any (w : World) (h : Glob w) : Calls Tryz.prog 18 #[] w fun e w' => e = .returned (.bool true) ∧ Below w.heap.size w w' := by
  have H := Lib.hid h
  clear h
  go_enter Tryz.func18, Tryz.ntmps18
  go_wp2_with fail
  refine (int42 w).mono ?_
  rintro e w1 ⟨rfl, hb1⟩
  have HB1 := Lib.hid hb1
  have H1 := Lib.hid (H.out.below hb1)
  clear hb1
  go_wp2_with fail
  refine (float15 w1 H1.out.knows).mono ?_
  rintro e w2 ⟨rfl, hb2⟩
  have HB2 := Lib.hid (HB1.out.trans (hb2.mono HB1.out.size))
  have H2 := Lib.hid (H1.out.below hb2)
  clear hb2
  have HD := Lib.hid (div_any (-7) 2 w2 (by decide))
  rw [show wrap64 (Int.tdiv (-7) 2) = -3 by decide +kernel] at HD
  have HS := Lib.hid (show_any 4609434218613702656 (by decide) w2 H2.out.trail nan15)
  rw [wide15] at HS
  have HF := Lib.hid (fun W => fless_any 4607182418800017408 4609434218613702656 W)
  rw [flt15] at HF
  go_wp2_with (first | (go_at_call 45; refine HD.out.mono ?_; rintro e w' ⟨rfl, rfl⟩) | (go_at_call 21; refine HS.out.mono ?_; rintro e w3 ⟨rfl, hb3⟩) | (go_at_call 25; refine (HF.out _).mono ?_; rintro e w' ⟨rfl, rfl⟩))
  have HB3 := Lib.hid (HB2.out.trans (hb3.mono HB2.out.size))
  have HT := Lib.hid (text_any (-5) (by decide) (by decide) w3 (H2.out.below hb3))
  rw [itoa5] at HT
  clear hb3
  refine HT.out.mono ?_
  rintro e w4 ⟨rfl, hb4⟩
  have HB4 := Lib.hid (HB3.out.trans (hb4.mono HB3.out.size))
  clear hb4
  go_wp2_with fail
  go_ret
  exact ⟨rfl, HB4.out⟩
end Go.Proofs.YtoonneminimbfaaGreatDoor
