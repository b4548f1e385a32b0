/- num's sums, differences, products, quotients. emendlaw01.awake. From what the rows list of the library's variables to what the walks read. The wrap that keeps both the world's shape and what the row lists; what a law's call owes behind its walk. Generic over the program. Words for memory: slices that read as lists of records, rows of the call's own. Generic over the program. emendlaw01.NumRing: the walk. -/
import Derived.Test.YtoonneminimbfaaGreatDoorLA
import Derived.Lib.SmallJoins
import Derived.Lib.LaidU8
import Derived.LaidLaws
import Derived.Lay
import Derived.ProofKit
import Derived.OpenShut
import Derived.HandedShaped
import Derived.LaidOnce
import Derived.WalkKit
import Derived.Outline
import Derived.Lib.Hide
import Derived.WalkLawsBesides
import Derived.WalkSpells
import Derived.Deep.AppendLies
import Derived.Deep.Draws
import Derived.Laws.OwnMore
import Derived.Maps.AppendAt
import Derived.OwnWalk
import Derived.Deep.QuietTactic
import Derived.BigQuiet
namespace Go.Proofs.YtoonneminimbfaaGreatDoor
section
open Go.RowKit
set_option linter.unusedVariables false
set_option linter.unusedSimpArgs false

theorem both_add (a b : Int) (w : World) : Calls Tryz.prog 71 #[.int .u8 43, .int .i64 a, .int .i64 b] w fun e w' => e = .returned (.int .i64 (wrap64 (a + b))) ∧ w = w' := by
  go_enter Tryz.func71, Tryz.ntmps71
  go_wp2
  go_ret
  exact ⟨rfl, rfl⟩
theorem both_sub (a b : Int) (w : World) : Calls Tryz.prog 71 #[.int .u8 45, .int .i64 a, .int .i64 b] w fun e w' => e = .returned (.int .i64 (wrap64 (a - b))) ∧ w = w' := by
  go_enter Tryz.func71, Tryz.ntmps71
  go_wp2
  go_ret
  exact ⟨rfl, rfl⟩
theorem both_mul (a b : Int) (w : World) : Calls Tryz.prog 71 #[.int .u8 42, .int .i64 a, .int .i64 b] w fun e w' => e = .returned (.int .i64 (wrap64 (a * b))) ∧ w = w' := by
  go_enter Tryz.func71, Tryz.ntmps71
  go_wp2
  go_ret
  exact ⟨rfl, rfl⟩
theorem add_any (a b : Int) (w : World) : Calls Tryz.prog 29 #[.int .i64 a, .int .i64 b] w fun e w' => e = .returned (.int .i64 (wrap64 (a + b))) ∧ w = w' := by
  go_enter Tryz.func29, Tryz.ntmps29
  go_wp2_with (go_at_call 71; refine (both_add _ _ _).mono ?_; rintro e w' ⟨rfl, rfl⟩)
  go_ret
  exact ⟨rfl, rfl⟩
theorem sub_any (a b : Int) (w : World) : Calls Tryz.prog 31 #[.int .i64 a, .int .i64 b] w fun e w' => e = .returned (.int .i64 (wrap64 (a - b))) ∧ w = w' := by
  go_enter Tryz.func31, Tryz.ntmps31
  go_wp2_with (go_at_call 71; refine (both_sub _ _ _).mono ?_; rintro e w' ⟨rfl, rfl⟩)
  go_ret
  exact ⟨rfl, rfl⟩
theorem mul_any (a b : Int) (w : World) : Calls Tryz.prog 30 #[.int .i64 a, .int .i64 b] w fun e w' => e = .returned (.int .i64 (wrap64 (a * b))) ∧ w = w' := by
  go_enter Tryz.func30, Tryz.ntmps30
  go_wp2_with (go_at_call 71; refine (both_mul _ _ _).mono ?_; rintro e w' ⟨rfl, rfl⟩)
  go_ret
  exact ⟨rfl, rfl⟩
theorem neg_any (a : Int) (w : World) : Calls Tryz.prog 32 #[.int .i64 a] w fun e w' => e = .returned (.int .i64 (wrap64 (-a))) ∧ w = w' := by
  go_enter Tryz.func32, Tryz.ntmps32
  go_wp2
  go_ret
  exact ⟨rfl, rfl⟩
theorem div_zero (a : Int) (w : World) : Calls Tryz.prog 45 #[.int .i64 a, .int .i64 0] w fun e w' => e = .returned (.tuple #[.int .i64 0, .bool false]) ∧ w = w' := by
  go_enter Tryz.func45, Tryz.ntmps45
  go_wp2
  go_ret2
  exact ⟨rfl, rfl⟩
theorem div_any (a b : Int) (w : World) (hb : b ≠ 0) : Calls Tryz.prog 45 #[.int .i64 a, .int .i64 b] w fun e w' => e = .returned (.tuple #[.int .i64 (wrap64 (a.tdiv b)), .bool true]) ∧ w = w' := by
  have hb2 : (b == 0) = false := by simpa using hb
  go_enter Tryz.func45, Tryz.ntmps45
  go_wp2
  go_ret2
  exact ⟨rfl, rfl⟩
theorem rem_zero (a : Int) (w : World) : Calls Tryz.prog 46 #[.int .i64 a, .int .i64 0] w fun e w' => e = .returned (.tuple #[.int .i64 0, .bool false]) ∧ w = w' := by
  go_enter Tryz.func46, Tryz.ntmps46
  go_wp2
  go_ret2
  exact ⟨rfl, rfl⟩
theorem rem_any (a b : Int) (w : World) (hb : b ≠ 0) : Calls Tryz.prog 46 #[.int .i64 a, .int .i64 b] w fun e w' => e = .returned (.tuple #[.int .i64 (a.tmod b), .bool true]) ∧ w = w' := by
  have hb2 : (b == 0) = false := by simpa using hb
  go_enter Tryz.func46, Tryz.ntmps46
  go_wp2
  go_ret2
  exact ⟨rfl, rfl⟩
end

section
open Go.RowKit
set_option linter.unusedVariables false
set_option linter.unusedSimpArgs false

theorem below_grow (w : World) (k : Nat) (os : Array Obj) : Below w.heap.size w (Sort.grow (w.drewN k) os) := by
  refine ⟨rfl, rfl, rfl, ?_, fun j hj => ?_⟩
  · show w.heap.size ≤ (w.heap ++ os).size
    simp
  · show (w.heap ++ os)[j]? = _
    rw [Array.getElem?_append_left hj]

/-- What the library's variables hold that are read in this seat's laws. -/
structure Glob (w : World) : Prop where
  knows : Knows w
  trail : w.cell? ⟨12, 15, none⟩ = some (.int .u8 4)
  tens : Lib.TabIs Tryz.prog w "internal/strconv.uint64pow10" .u64 Lib.pow10Tab

theorem Knows.below {w w' : World} (h : Knows w) (hb : Below w.heap.size w w') : Knows w' := by
  obtain ⟨⟨m, hm⟩, h1, h2, ⟨pb, po, c, h3, h4⟩⟩ := h
  exact ⟨⟨m, Below.at_ hb hm⟩, Below.at_ hb h1, Below.at_ hb h2, ⟨pb, po, c, Below.at_ hb h3, Below.at_ hb h4⟩⟩
theorem Glob.below {w w' : World} (h : Glob w) (hb : Below w.heap.size w w') : Glob w' := by
  refine ⟨h.knows.below hb, Below.at_ hb h.trail, ?_⟩
  have ht := h.tens
  unfold Lib.TabIs World.var? at ht ⊢
  cases hg : Tryz.prog.globalNamed "internal/strconv.uint64pow10" with
  | none => rw [hg] at ht; simp at ht
  | some g =>
    rw [hg] at ht
    simp only [Option.bind_some] at ht ⊢
    have hlt : g < w.heap.size := by
      rcases Nat.lt_or_ge g w.heap.size with h | h
      · exact h
      · rw [Array.getElem?_eq_none h] at ht; simp at ht
    rw [hb.block g hlt]
    exact ht

theorem natural_42 : natV [52, 50] = true := by decide
set_option maxRecDepth 1000000 in
set_option maxHeartbeats 1600000 in
theorem int42 (w : World) : Calls Tryz.prog 13 #[.string ⟨#[52, 50]⟩] w fun e w' => e = .returned (.tuple #[.int .i64 42, .int .i64 0]) ∧ Below w.heap.size w w' := by
  have HN := Lib.hid (natural_any ⟨#[52, 50]⟩ w (by decide))
  rw [show (⟨#[52, 50]⟩ : ByteArray).data.toList = [52, 50] from rfl, natural_42] at HN
  have HP := Lib.hid (Tryz.strconv_ParseInt_10_at64_ok ⟨#[52, 50]⟩ (by decide) 42 (by decide) w)
  go_enter Tryz.func13, Tryz.ntmps13
  go_wp2_with (first | (go_at_call 51; refine HN.out.mono ?_; rintro e w' ⟨rfl, rfl⟩) | (go_at_call 52; refine HP.out.mono ?_; rintro e w1 ⟨rfl, hw1⟩))
  go_ret2
  refine ⟨rfl, ?_⟩
  rcases hw1 with rfl | ⟨t, rfl⟩
  · exact Below.refl _ _
  · exact Go.Joins.below_bytesWorld _ _ _ _ (Nat.le_refl _)

theorem natural_1 : natV [49] = true := by decide
theorem digits_5 : digN [53] = 1 := by decide
set_option maxRecDepth 1000000 in
set_option maxHeartbeats 1600000 in
theorem floating15 (w : World) (h : Knows w) : Calls Tryz.prog 54 #[.string ⟨#[49, 46, 53]⟩] w fun e w' => e = .returned (.bool true) ∧ ∃ n, w' = w.drewN n := by
  obtain ⟨m, hm⟩ := h.maxlen
  have HC := Lib.hid (Tryz.strings_Cut ⟨#[49, 46, 53]⟩ ⟨#[46]⟩ m w (by decide) hm)
  rw [show Lib.cut (⟨#[49, 46, 53]⟩ : ByteArray).data.toList (⟨#[46]⟩ : ByteArray).data.toList = ([49], [53], true) by decide] at HC
  have HN := Lib.hid (fun W => natural_any ⟨#[49]⟩ W (by decide))
  rw [show (⟨#[49]⟩ : ByteArray).data.toList = [49] from rfl, natural_1] at HN
  have HD := Lib.hid (fun W => digits_any ⟨#[53]⟩ W (by decide))
  rw [show (⟨#[53]⟩ : ByteArray).data.toList = [53] from rfl, digits_5] at HD
  have HX := Lib.hid (fun W => Tryz.strings_CutPrefix ByteArray.empty ⟨#[101]⟩ W)
  rw [show Lib.trimPrefix ByteArray.empty.data.toList (⟨#[101]⟩ : ByteArray).data.toList = [] by decide, show Lib.hasPrefix ByteArray.empty.data.toList (⟨#[101]⟩ : ByteArray).data.toList = false by decide] at HX
  go_enter Tryz.func54, Tryz.ntmps54
  go_wp2_with fail
  refine HC.out.mono ?_
  rintro e w1 ⟨rfl, n, rfl⟩
  go_wp2_with (first | (go_at_call 51; go_loud (refine (HN.out _).mono ?_); rintro e w' ⟨rfl, rfl⟩) | (go_at_call 80; go_loud (refine (HD.out _).mono ?_); rintro e w' ⟨rfl, rfl⟩) | (go_at_call 85; go_loud (refine (HX.out _).mono ?_); rintro e w' ⟨rfl, rfl⟩))
  go_ret
  exact ⟨rfl, n, rfl⟩

set_option maxRecDepth 1000000 in
set_option maxHeartbeats 1600000 in
theorem float15 (w : World) (h : Knows w) : Calls Tryz.prog 15 #[.string ⟨#[49, 46, 53]⟩] w fun e w' => e = .returned (.tuple #[.float .f64 4609434218613702656, .int .i64 0]) ∧ Below w.heap.size w w' := by
  have HF := Lib.hid (floating15 w h)
  have HP := Lib.hid (show ∀ n, Calls Tryz.prog 55 #[.string ⟨#[49, 46, 53]⟩, .int .i64 64] (w.drewN n) fun e w' => e = .returned (.tuple #[.float .f64 4609434218613702656, .nilIface]) ∧ ∃ m, w' = (w.drewN n).drewN m from fun n => parseFloat15 _ ⟨h.maxlen, h.width, h.ways, h.pows⟩)
  clear h
  go_enter Tryz.func15, Tryz.ntmps15
  go_wp2_with (first | (go_at_call 54; refine HF.out.mono ?_; rintro e w' ⟨rfl, n, rfl⟩) | (go_at_call 55; refine (HP.out n).mono ?_; rintro e w1 ⟨rfl, m, rfl⟩))
  go_ret2
  exact ⟨rfl, ⟨rfl, rfl, rfl, Nat.le_refl _, fun _ _ => rfl⟩⟩

theorem text_any (n : Int) (h0 : -9223372036854775808 ≤ n) (h1 : n ≤ 9223372036854775807) (w : World) (h : Glob w) :
    Calls Tryz.prog 19 #[.int .i64 n] w fun e w' => e = .returned (.string ⟨(Lib.itoa n).toArray⟩) ∧ Below w.heap.size w w' := by
  have HP := Lib.hid (Tryz.strconv_FormatInt_10 n h0 h1 w h.tens)
  clear h
  go_enter Tryz.func19, Tryz.ntmps19
  go_wp2_with (go_at_call 62; refine HP.out.mono ?_; rintro e w' ⟨rfl, k, os, rfl⟩)
  go_ret
  exact ⟨rfl, below_grow _ _ _⟩

/-- Is one float below another? -/
def fltB (a b : Nat) : Bool := FloatKind.f64.format.order a b == some .lt
theorem fless_any (a b : Nat) (w : World) : Calls Tryz.prog 25 #[.float .f64 a, .float .f64 b] w fun e w' => e = .returned (.bool (fltB a b)) ∧ w = w' := by
  go_enter Tryz.func25, Tryz.ntmps25
  go_wp2
  go_ret
  exact ⟨rfl, rfl⟩

theorem nan15 : nanB 4609434218613702656 = false := by decide
theorem wide15 : wide 4609434218613702656 = ⟨#[51, 102, 102, 56, 48, 48, 48, 48, 48, 48, 48, 48, 48, 48, 48, 48]⟩ := by decide
theorem flt15 : fltB 4607182418800017408 4609434218613702656 = true := by decide
theorem itoa5 : (⟨(Lib.itoa (-5)).toArray⟩ : ByteArray) = ⟨#[45, 53]⟩ := by decide +kernel

set_option maxRecDepth 1000000 in
set_option maxHeartbeats 1600000 in
theorem awake_any (w : World) (h : Glob w) : Calls Tryz.prog 18 #[] w fun e w' => e = .returned (.bool true) ∧ Below w.heap.size w w' := by
  have H := Lib.hid h
  clear h
  go_enter Tryz.func18, Tryz.ntmps18
  go_wp2_with fail
  refine (int42 w).mono ?_
  rintro e w1 ⟨rfl, hb1⟩
  have HB1 := Lib.hid hb1
  have H1 := Lib.hid (H.out.below hb1)
  clear hb1
  go_wp2_with fail
  refine (float15 w1 H1.out.knows).mono ?_
  rintro e w2 ⟨rfl, hb2⟩
  have HB2 := Lib.hid (HB1.out.trans (hb2.mono HB1.out.size))
  have H2 := Lib.hid (H1.out.below hb2)
  clear hb2
  have HD := Lib.hid (div_any (-7) 2 w2 (by decide))
  rw [show wrap64 (Int.tdiv (-7) 2) = -3 by decide +kernel] at HD
  have HS := Lib.hid (show_any 4609434218613702656 (by decide) w2 H2.out.trail nan15)
  rw [wide15] at HS
  have HF := Lib.hid (fun W => fless_any 4607182418800017408 4609434218613702656 W)
  rw [flt15] at HF
  go_wp2_with (first | (go_at_call 45; refine HD.out.mono ?_; rintro e w' ⟨rfl, rfl⟩) | (go_at_call 21; refine HS.out.mono ?_; rintro e w3 ⟨rfl, hb3⟩) | (go_at_call 25; refine (HF.out _).mono ?_; rintro e w' ⟨rfl, rfl⟩))
  have HB3 := Lib.hid (HB2.out.trans (hb3.mono HB2.out.size))
  have HT := Lib.hid (text_any (-5) (by decide) (by decide) w3 (H2.out.below hb3))
  rw [itoa5] at HT
  clear hb3
  refine HT.out.mono ?_
  rintro e w4 ⟨rfl, hb4⟩
  have HB4 := Lib.hid (HB3.out.trans (hb4.mono HB3.out.size))
  clear hb4
  go_wp2_with fail
  go_ret
  exact ⟨rfl, HB4.out⟩
end

section
open Go.RowKit Go.Lib
set_option linter.unusedVariables false
set_option linter.unusedSimpArgs false

theorem var_cell {w : World} {n : String} {g : Nat} {cs : Array Value} (hg : Tryz.prog.globalNamed n = some g) (h : w.var? Tryz.prog n = some cs) (i : Nat) (hi : i < cs.size) : w.cell? ⟨g, i, none⟩ = some cs[i] := by
  have := World.var?_cell hg h i
  rw [this, Array.getElem?_eq_getElem hi]

theorem width_of {w : World} (h : VarReads Tryz.prog w "internal/strconv.float64info" (.agg [.lit (.int .u64 52), .lit (.int .u64 11), .lit (.int .i64 (-1023))])) : w.cell? ⟨7, 0, none⟩ = some (.int .u64 52) := by
  obtain ⟨g, t, cs, fuel, p, hg, hty, hvar, hd⟩ := h
  obtain rfl := Option.some.inj ((show Tryz.prog.globalNamed "internal/strconv.float64info" = some 7 by kernel_rfl).symm.trans hg)
  obtain rfl := Option.some.inj ((show (Tryz.prog.globals[7]?).map (·.type) = some 160 by kernel_rfl).symm.trans hty)
  obtain ⟨xs, n, rfl, hx, hl, hxl, hall⟩ := DataW.trod_struct Tryz.underlying160 hd
  have h0 : DataW.trod (fun _ => ()) Tryz.prog w 0 (fun _ => true) false n 83 ((cs.toList.drop 0).take (Tryz.prog.cellsOf 83)) = xs[0]? := hall 0 _ rfl
  rw [show Tryz.prog.cellsOf 160 = 3 by kernel_rfl] at hl
  rw [show Tryz.prog.cellsOf 83 = 1 by kernel_rfl] at h0
  have e0 : xs.map (·.1) = [.lit (.int .u64 52), .lit (.int .u64 11), .lit (.int .i64 (-1023))] := by
    have := congrArg Prod.fst hx
    simpa using this.symm
  obtain ⟨b, hb⟩ : ∃ b, xs[0]? = some b := by
    cases xs with
    | nil => simp at e0
    | cons x xs => exact ⟨x, rfl⟩
  rw [hb] at h0
  obtain ⟨z, hcz, rfl, _⟩ := DataW.trod_int Tryz.underlying83 h0
  have hz : z = 52 := by
    have := congrArg (fun l => l[0]?) e0
    simp [List.getElem?_map, hb] at this
    exact this
  subst hz
  have hsz : 0 < cs.size := by rw [← Array.length_toList]; omega
  rw [var_cell (by kernel_rfl) hvar 0 hsz]
  have hh : cs.toList[0]? = some (Value.int .u64 52) := by
    have := congrArg (fun l => l[0]?) hcz
    simpa using this
  rw [← Array.getElem?_eq_getElem hsz]
  simpa using hh

theorem ways_of {w : World} (h : VarReads Tryz.prog w "internal/strconv.optimize" (.lit (.bool true))) : w.cell? ⟨6, 0, none⟩ = some (.bool true) := by
  obtain ⟨g, t, cs, fuel, p, hg, hty, hvar, hd⟩ := h
  obtain rfl := Option.some.inj ((show Tryz.prog.globalNamed "internal/strconv.optimize" = some 6 by kernel_rfl).symm.trans hg)
  obtain rfl := Option.some.inj ((show (Tryz.prog.globals[6]?).map (·.type) = some 4 by kernel_rfl).symm.trans hty)
  obtain ⟨b, hcs, hx⟩ := DataW.trod_bool Tryz.underlying4 hd
  injection hx with hx _
  injection hx with hx
  injection hx with hx
  subst hx
  have hsz : 0 < cs.size := by rw [← Array.length_toList, hcs]; simp
  rw [var_cell (by kernel_rfl) hvar 0 hsz]
  have : cs = #[.bool true] := by rw [← Array.toList_inj]; exact hcs
  subst this
  rfl

theorem tab_of {w : World} {n : String} {g t e m : Nat} {k : IntKind} {zs : List Int} (hg : Tryz.prog.globalNamed n = some g) (hty : (Tryz.prog.globals[g]?).map (·.type) = some t) (ht : Tryz.prog.underlying t = some (.array m e)) (he : Tryz.prog.underlying e = some (.int k))
    (hce : Tryz.prog.cellsOf e = 1) (hct : Tryz.prog.cellsOf t = m) (h : VarReads Tryz.prog w n (tabData k zs)) : TabIs Tryz.prog w n k zs := by
  obtain ⟨g', t', cs, fuel, p, hg', hty', hvar, hd⟩ := h
  obtain rfl := Option.some.inj (hg.symm.trans hg')
  obtain rfl := Option.some.inj (hty.symm.trans hty')
  have := cells_of_tab ht he hce hct hd
  unfold TabIs
  rw [hvar, ← this]

set_option maxRecDepth 1000000 in
theorem pows_of {w : World} {ds : List (DataW Unit)} (hlen : ds.length = 23) (h1 : ds[1]? = some (.lit (.float .f64 4621819117588971520))) (h : VarReads Tryz.prog w "internal/strconv.float64pow10" (.slice ds [])) :
    ∃ pb po c, w.cell? ⟨10, 0, none⟩ = some (.slice (some ⟨pb, po, none⟩) 23 c) ∧ w.cell? ⟨pb, po + 1, none⟩ = some (.float .f64 4621819117588971520) := by
  obtain ⟨g, t, cs, fuel, p, hg, hty, hvar, hd⟩ := h
  obtain rfl := Option.some.inj ((show Tryz.prog.globalNamed "internal/strconv.float64pow10" = some 10 by kernel_rfl).symm.trans hg)
  obtain rfl := Option.some.inj ((show (Tryz.prog.globals[10]?).map (·.type) = some 191 by kernel_rfl).symm.trans hty)
  rcases DataW.trod_slice Tryz.underlying191 hd with ⟨_, hx⟩ | ⟨a, len, cap, el, rs, m, rfl, hcs, hx, _, hlc, _, hel, helem, _, _⟩
  · cases hx
  · have e0 := congrArg Prod.fst hx
    simp only [DataW.slice.injEq] at e0
    obtain ⟨eE, _⟩ := e0
    have hl : len = 23 := by
      have := congrArg List.length eE
      simp at this
      omega
    subst hl
    have hi := helem 1 (by omega)
    rw [show Tryz.prog.cellsOf 27 = 1 by kernel_rfl] at hi
    obtain ⟨b, hb⟩ : ∃ b, el[1]? = some b := ⟨el[1]'(by omega), List.getElem?_eq_getElem (by omega)⟩
    have hb1 : b.1 = .lit (.float .f64 4621819117588971520) := by
      have := congrArg (fun l => l[1]?) eE
      simp only [List.getElem?_map, hb, h1] at this
      simpa using this.symm
    rw [hb] at hi
    obtain ⟨c1, hc1, ht1⟩ := Option.bind_eq_some_iff.1 hi
    obtain ⟨_, hcl, hat⟩ := World.cells?_some hc1
    cases m with
    | zero => simp [DataW.trod] at ht1
    | succ m =>
      unfold DataW.trod at ht1
      simp only [Tryz.underlying27] at ht1
      match c1, hcl, ht1 with
      | [v], _, ht1 =>
        cases v with
        | float k bts =>
          have hv : k = .f64 ∧ bts = 4621819117588971520 := by
            simp only at ht1
            split at ht1
            · simp only [Option.some.injEq] at ht1
              rw [← ht1] at hb1
              simp only [DataW.lit.injEq, Lit.float.injEq] at hb1
              rename_i hk
              exact ⟨by first | exact hk.1 | exact hk, hb1.2⟩
            · cases ht1
          obtain ⟨rfl, rfl⟩ := hv
          have h10 : w.cell? ⟨10, 0, none⟩ = some (.slice (some a) 23 cap) := by
            have hsz : 0 < cs.size := by rw [← Array.length_toList, hcs]; simp
            rw [var_cell (by kernel_rfl) hvar 0 hsz]
            have : cs = #[.slice (some a) 23 cap] := by rw [← Array.toList_inj]; exact hcs
            subst this; rfl
          have hcc := hat 0 (by simp)
          have hi0 := helem 0 (by omega)
          rw [show Tryz.prog.cellsOf 27 = 1 by kernel_rfl] at hi0
          obtain ⟨b0, hb0⟩ : ∃ b, el[0]? = some b := ⟨el[0]'(by omega), List.getElem?_eq_getElem (by omega)⟩
          rw [hb0] at hi0
          obtain ⟨c0, hc0, ht0⟩ := Option.bind_eq_some_iff.1 hi0
          obtain ⟨_, hcl0, hat0⟩ := World.cells?_some hc0
          have hs0 := hat0 0 (by omega)
          obtain ⟨u0, hu0⟩ : ∃ u, c0[0]? = some u := ⟨c0[0]'(by omega), List.getElem?_eq_getElem (by omega)⟩
          rw [hu0] at hs0
          have hspot : a.spot = none := World.cell?_spot (by simpa [Addr.add] using hs0)
          obtain ⟨pb, po, spot⟩ := a
          dsimp only at hspot
          subst hspot
          exact ⟨pb, po, cap, h10, by simpa [Addr.add] using hcc⟩
        | _ => simp at ht1

theorem tens_eq : (Rows.laid_internal_strconv_uint64pow10 : DataW Unit) = tabData .u64 Lib.pow10Tab := by kernel_rfl
def deBruijn : List Int := [0, 1, 56, 2, 57, 49, 28, 3, 61, 58, 42, 50, 38, 29, 17, 4, 62, 47, 59, 36, 45, 43, 51, 22, 53, 39, 33, 30, 24, 18, 12, 5, 63, 55, 48, 27, 60, 41, 37, 16, 46, 35, 44, 21, 52, 32, 23, 11, 54, 26, 40, 15, 34, 20, 31, 10, 25, 14, 19, 9, 13, 8, 7, 6]

set_option maxRecDepth 1000000 in
/-- All that the walks read of them, out of a row's list. -/
theorem glob_of {w : World} (hsh : w.ShapedOpen Tryz.prog) (hL : laidMet Tryz.prog Rows.numRingRow.laid w) : Glob w := by
  have h7 := width_of (Lib.laidMet.reads hL (by simp [Rows.numRingRow, Rows.laid_internal_strconv_float64info]))
  have h6 := ways_of (Lib.laidMet.reads hL (by simp [Rows.numRingRow, Rows.laid_internal_strconv_optimize]))
  have h10 := pows_of (ds := (match (Rows.laid_internal_strconv_float64pow10 : DataW Unit) with | .slice l _ => l | _ => [])) (by rfl) (by rfl) (Lib.laidMet.reads hL (by simp [Rows.numRingRow, Rows.laid_internal_strconv_float64pow10]))
  have h12 := tab_of (n := "math/bits.deBruijn64tab") (g := 12) (t := 194) (e := 5) (m := 64) (k := .u8) (zs := deBruijn) (by kernel_rfl) (by kernel_rfl) Tryz.underlying194 Tryz.underlying5 (by kernel_rfl) (by kernel_rfl) (Lib.laidMet.reads hL (by simp [Rows.numRingRow, Rows.laid_math_bits_deBruijn64tab, deBruijn, tabData]))
  have h3 := tab_of (n := "internal/strconv.uint64pow10") (g := 3) (t := 142) (e := 30) (m := 20) (k := .u64) (zs := Lib.pow10Tab) (by kernel_rfl) (by kernel_rfl) Tryz.underlying142 Tryz.underlying30 (by kernel_rfl) (by kernel_rfl) (Lib.laidMet.reads hL (by rw [← tens_eq]; simp [Rows.numRingRow]))
  have hc := h12.cell (g := 12) (by kernel_rfl) 15 (by decide)
  exact ⟨⟨Tryz.laysM145.s1_3 w hsh, h7, h6, h10⟩, hc, h3⟩
end

section
open Go.ChangeShapes Go.WideShapes Go.ChangeAt Go.RowKit
set_option linter.unusedVariables false
set_option linter.unusedSimpArgs false

theorem wrap_and_shaped {H : Type} {enc : TypeId × Value → H} {a : Assume} {C : Checked} {os : Os} {f : FuncId} {fn : Func} {s : ChangeSpec} {conds : List PathCond} {apart fresh handsOn again : Bool} {X : World → Array Value → Prop}
    (hX : ∀ (w w' : World) (args : Array Value), w.heap = w'.heap → X w args → X w' args)
    (own : ownKnob C.prog.godebug = none) (started : os.Started) (noInit : C.prog.inits.idxOf? f = none) (hfn : C.prog.funcs[f]? = some fn)
    (witness : ∃ (w : World) (tape : Tape) (i : Input), w.os = os ∧ (w.forCall tape i).Shaped C.prog ∧ i.vars = [] ∧ Input.okWide C.prog (w.forCall tape i) .any w.heap.size f i ∧
      ((s.pre enc C.prog fn conds apart (w.forCall tape i).memory i.args ∧ X (w.forCall tape i).memory i.args) ∧ sizedMet enc C.prog fn (OpenSpec.ofChange s) apart (w.forCall tape i).memory i.args) ∧ a.holds C.prog (lone (Frame.enter C.prog f i.args .normal) [] (w.forCall tape i)))
    (contract : ∀ (W : World) (base : Nat) (args : Array Value) (ds gs : List (DataW H)) (before : List MemPlace),
      (∀ (j : Nat) t v, fn.params[j]? = some t → args[j]? = some v → Value.okWide C.prog W .any base t v) →
      DataW.Whole enc C.prog fn.params.toList s.vars apart W args.toList ds gs before →
      (DataW.weightsEach C.prog (fn.params.toList ++ s.plain.varTypes C.prog) (ds ++ gs)).all (· ≤ reachBytes) = true → X W args → W.ShapedOpen C.prog →
      Calls C.prog f args W fun e W' => ∃ v, e = .returned v ∧ s.post enc C.prog fn apart fresh handsOn again W args v W') :
    ReturnsInHanded a C os f .any (fun w args => (s.pre enc C.prog fn conds apart w args ∧ X w args) ∧ sizedMet enc C.prog fn (OpenSpec.ofChange s) apart w args) (s.post enc C.prog fn apart fresh handsOn again) := by
  refine returnsInHanded_of_calls own started noInit witness ?_
  intro w tape i _ hsh _ hok hpre hholds
  obtain ⟨_, _, _, fn', hfn', _, _, _, _, hval⟩ := hok
  have e : fn' = fn := Option.some.inj (hfn'.symm.trans hfn)
  subst e
  obtain ⟨⟨⟨ds, gs, before, hw, hc⟩, hx⟩, hz⟩ := hpre
  have hw' := DataW.Whole.of_heap (w' := w.forCall tape i) (by rfl) hw
  refine (contract (w.forCall tape i) w.heap.size i.args ds gs before hval hw' (hz.weights hw) (hX _ _ _ (by rfl) hx) hsh).mono fun e W' ⟨v, he, hp⟩ => ?_
  subst he
  exact ChangeSpec.post_blind hp

section
variable {H : Type} {enc : TypeId × Value → H} {P : Program} {W W' : World}
theorem trodAll_below (hl : laidOutB P = true) (hb : Below W.heap.size W W') : ∀ (ts : List TypeId) (vs : List Value) (ds : List (DataW H)) (ps : List MemPlace),
    (∀ t ∈ ts, P.readableRec t = true ∧ t < P.types.size) → DataW.TrodAll enc P W 0 (fun _ => true) true ts vs ds ps →
    DataW.TrodAll enc P W' 0 (fun b => decide (b < W.heap.size)) true ts vs ds ps := by
  intro ts
  induction ts with
  | nil =>
    intro vs ds ps _ h
    obtain ⟨rfl, rfl, rfl⟩ := trodAll_nil h
    exact trodAll_mk0
  | cons t ts ih =>
    intro vs ds ps hr h
    obtain ⟨v, vs', d, ds', p, q, rfl, rfl, rfl, h0, h1⟩ := trodAll_cons h
    obtain ⟨hr0, ht0⟩ := hr t (List.mem_cons_self ..)
    have hlt : ∀ x ∈ p, x.block < W.heap.size := by
      obtain ⟨m, hm⟩ := h0
      exact DataW.trod_lt m _ _ _ hm
    exact trodAll_cons_mk (Below.trod hl hr0 ht0 h0 hb hlt) (ih _ _ _ (fun t' ht' => hr t' (List.mem_cons_of_mem _ ht')) h1)

/-- What a law's call owes, out of its walk. -/
theorem law_post {f : Func} {s : ChangeSpec} {k : FuncId} {args : Array Value} {ds gs : List (DataW H)} {before : List MemPlace} {bt : TypeId} (hl : laidOutB P = true)
    (hread : f.params.toList.all (fun t => P.readableRec t && decide (t < P.types.size)) = true) (hres : f.resultTypes = #[bt]) (hbt : P.underlying bt = some .bool) (hvars : s.vars = [])
    (hs : s.fn H (ds ++ gs) = { results := [.lit (.bool true)], args := ds }) (hW : DataW.Whole enc P f.params.toList s.vars false W args.toList ds gs before)
    (hc : Calls P k args W fun e W' => e = .returned (.bool true) ∧ Below W.heap.size W W') :
    Calls P k args W fun e W' => ∃ v, e = .returned v ∧ s.post enc P f false true false false W args v W' := by
  refine hc.mono fun e W' ⟨he, hb⟩ => ?_
  subst he
  obtain ⟨p, q, hA, hV, rfl, hfz, hnd⟩ := id hW
  have hA' := trodAll_below hl hb _ _ _ _ (fun t ht => by have := List.all_eq_true.1 hread t ht; simpa using this) hA
  rw [hvars] at hV
  obtain ⟨hgs, hq⟩ := trodVars_none hV
  refine ⟨_, rfl, ds, gs, _, [], p, [], hW, ?_, ?_, ?_, hb.frame _, fun h => by cases h⟩
  · rw [hs, hres]
    exact trodAll_mk1 (shut_bool hbt _)
  · rw [hs]; exact hA'
  · rw [hs, hvars]; rfl

end
end

section
open Go.RowKit

section
variable {α : Type} {cs : α → List Value} {sz : Nat} {w w' : World} {B B' : Nat} {A : Option Addr} {l : List α}

/-- The slice over A reads as the records l (sz cells each, as cs says), all below block B. -/
def RowOf (cs : α → List Value) (sz : Nat) (w : World) (B : Nat) (A : Option Addr) (l : List α) : Prop :=
  0 < l.length → ∃ b off, A = some ⟨b, off, none⟩ ∧ b < B ∧ ∀ i x, l[i]? = some x → ∀ j v, (cs x)[j]? = some v → w.cell? ⟨b, off + i * sz + j, none⟩ = some v

theorem RowOf.nil_ : RowOf cs sz w B A [] := fun h => absurd h (by simp)

theorem RowOf.keep (h : RowOf cs sz w B A l) (hk : ∀ p : Addr, p.block < B → w'.cell? p = w.cell? p) : RowOf cs sz w' B A l := by
  intro hn
  obtain ⟨b, off, e, hb, hc⟩ := h hn
  exact ⟨b, off, e, hb, fun i x hx j v hv => (hk _ hb).trans (hc i x hx j v hv)⟩

theorem RowOf.below (h : RowOf cs sz w B A l) (hb : Below B' w w') (hB : B ≤ B') : RowOf cs sz w' B A l := h.keep fun _ hp => hb.cell (by omega)
theorem RowOf.more (h : RowOf cs sz w B A l) (hB : B ≤ B') : RowOf cs sz w B' A l := by
  intro hn
  obtain ⟨b, off, e, hb, hc⟩ := h hn
  exact ⟨b, off, e, by omega, hc⟩
theorem RowOf.drewN (h : RowOf cs sz w B A l) (k : Nat) : RowOf cs sz (w.drewN k) B A l := h
theorem RowOf.drew (h : RowOf cs sz w B A l) : RowOf cs sz w.drew B A l := h
theorem RowOf.alloc (h : RowOf cs sz w B A l) (hB : B ≤ w.heap.size) (o : Obj) : RowOf cs sz (w.alloc o) B A l :=
  h.keep fun p hp => World.cell?_alloc_lt w o p (by omega)
/-- all below a call's first block stays -/
theorem RowOf.after (h : RowOf cs sz w B A l) (hB : B ≤ w.heap.size) (hb : Below w.heap.size w w') : RowOf cs sz w' w'.heap.size A l :=
  (h.below hb hB).more (Nat.le_trans hB hb.size)
theorem RowOf.take (h : RowOf cs sz w B A l) (n : Nat) : RowOf cs sz w B A (l.take n) := by
  intro hn
  obtain ⟨b, off, e, hb, hc⟩ := h (by rw [List.length_take] at hn; omega)
  refine ⟨b, off, e, hb, fun i x hx => hc i x ?_⟩
  rw [List.getElem?_take] at hx
  split at hx
  · exact hx
  · cases hx

theorem flat_at (hs : ∀ x, (cs x).length = sz) : ∀ (l : List α) (i : Nat) (x : α), l[i]? = some x → ∀ j v, (cs x)[j]? = some v → (l.flatMap cs)[i * sz + j]? = some v := by
  intro l
  induction l with
  | nil => intro i x hx; simp at hx
  | cons y l ih =>
    intro i x hx j v hv
    rw [List.flatMap_cons]
    cases i with
    | zero =>
      simp at hx
      subst hx
      have hj : j < (cs y).length := by
        rcases Nat.lt_or_ge j (cs y).length with h | h
        · exact h
        · rw [List.getElem?_eq_none h] at hv; cases hv
      rw [Nat.zero_mul, Nat.zero_add, List.getElem?_append_left hj]
      exact hv
    | succ i =>
      simp at hx
      rw [Nat.succ_mul, List.getElem?_append_right (by rw [hs]; omega), hs]
      rw [show i * sz + sz + j - sz = i * sz + j by omega]
      exact ih i x hx j v hv

theorem flat_len (hs : ∀ x, (cs x).length = sz) (l : List α) : (l.flatMap cs).length = l.length * sz := by
  induction l with
  | nil => simp
  | cons y l ih => rw [List.flatMap_cons, List.length_append, hs, ih, List.length_cons, Nat.succ_mul]; omega

/-- A block laid anew that holds the records. -/
theorem RowOf.made (hs : ∀ x, (cs x).length = sz) (W : World) (arr : Array Value) (e : TypeId) (fz : Nat × Nat) (h : arr.toList = l.flatMap cs) (g : Nat) (hg : g = W.heap.size) :
    RowOf cs sz (W.alloc (.cells arr e fz)) (W.alloc (.cells arr e fz)).heap.size (some ⟨g, 0, none⟩) l := by
  subst hg
  intro _
  refine ⟨W.heap.size, 0, rfl, by simp, fun i x hx j u hu => ?_⟩
  have hf := flat_at hs l i x hx j u hu
  rw [cell_of_row _ _ _ _ _ _ (heap_alloc_new W _), Nat.zero_add, ← Array.getElem?_toList, h]
  exact hf

/-- A row of the call's own: from block B on, nobody else's, with room behind it perhaps. -/
def Own (cs : α → List Value) (sz : Nat) (e : TypeId) (w : World) (B : Nat) (v : Value) (l : List α) : Prop :=
  w.ownsRow B e sz v l.length (l.flatMap cs)

variable {e : TypeId} {v : Value}
theorem Own.nil_ : Own cs sz e w B (.slice none 0 0) [] := World.ownsRow_nil w B e sz
theorem Own.lt (h : Own cs sz e w B v l) : ∀ k, v.ownBlock = some k → B ≤ k ∧ k < w.heap.size := World.ownsRow.lt h
theorem Own.alloc (h : Own cs sz e w B v l) (o : Obj) : Own cs sz e (w.alloc o) B v l := World.ownsRow.alloc h o
theorem Own.below (h : Own cs sz e w B v l) (hb : Below w.heap.size w w') : Own cs sz e w' B v l := by
  refine ⟨h.1, ?_⟩
  rcases h.2 with hn | ⟨g, cap, cur, rfl, hB, hgg, rest⟩
  · exact .inl hn
  · exact .inr ⟨g, cap, cur, rfl, hB, by rw [hb.block g (Array.getElem?_eq_some_iff.1 hgg).1]; exact hgg, rest⟩
theorem Own.drew (h : Own cs sz e w B v l) : Own cs sz e w.drew B v l := h
theorem Own.drewN (h : Own cs sz e w B v l) (k : Nat) : Own cs sz e (w.drewN k) B v l := h
theorem Own.kept {row : Option Nat} (h : Own cs sz e w B v l) (hg : w.grownBy w' row) (hne : v.ownBlock = none ∨ v.ownBlock ≠ row) : Own cs sz e w' B v l := World.ownsRow.kept h hg hne

/-- What a row of the call's own reads as. -/
theorem Own.row (hs : ∀ x, (cs x).length = sz) (h : Own cs sz e w B v l) : ∃ A c, v = .slice A l.length c ∧ RowOf cs sz w w.heap.size A l := by
  have h0 := h
  rcases h.2 with ⟨rfl, hn⟩ | ⟨g, cap, cur, rfl, hB, hgg, hcap, hm, hsz, htake⟩
  · exact ⟨none, 0, by rw [hn], fun hp => absurd hn (by omega)⟩
  · refine ⟨some ⟨g, 0, none⟩, cap, rfl, fun hp => ⟨g, 0, rfl, (Array.getElem?_eq_some_iff.1 hgg).1, fun i x hx j u hu => ?_⟩⟩
    have hf := flat_at hs l i x hx j u hu
    have hlt : i * sz + j < l.length * sz := by
      have h1 : i * sz + j < (l.flatMap cs).length := by
        rcases Nat.lt_or_ge (i * sz + j) (l.flatMap cs).length with h | h
        · exact h
        · rw [List.getElem?_eq_none h] at hf; cases hf
      rwa [flat_len hs] at h1
    rw [Nat.zero_add, World.ownsRow.cellAt h0 (i * sz + j) hlt]
    exact hf

end

section
variable {P : Program} {α : Type} {cs : α → List Value} {sz : Nat}

/-- append(out, x) of one record onto a row of the call's own, the record laid in a new block just before. -/
theorem wpList_append_one {ops : Array Oper} {rest : List Oper} {o : Oper} {a : Act} {Q : Exit → Act → World → Prop} (hgd : o.guard = none) (s x : Operand) (t : TypeId)
    (ho : o.op = .call { callee := .builtin .append, args := #[s, x], argTypes := #[t, t] })
    (e : TypeId) (i : TypeInfo) (z : Value) (bytes : Nat) (ht : P.underlying t = some (.slice e)) (hi : P.info? e = some i) (hz : i.zero = some z)
    (hsize : i.size = sz) (hby : i.bytes = bytes) (hzs : z.cells.size = sz) (hsz : 0 < sz) (hone : ∀ y, (cs y).length = sz) (hone1 : ∀ y, ∀ u ∈ cs y, u.oneCell' = true)
    (W : World) (B g : Nat) (v : Value) (l : List α) (y : α) (arr : Array Value) (harr : arr = (cs y).toArray) (hs : a.eval s = v) (hx : a.eval x = .slice (some ⟨g, 0, none⟩) 1 1) (hgs : g = W.heap.size)
    (hown : Own cs sz e W B v l) (h63 : l.length + 1 ≤ maxLen) (hbytes : (l.length + 1) * bytes ≤ 140737488355328) (hbase : B ≤ W.heap.size)
    (h : ∀ v' w', Own cs sz e w' B v' (l ++ [y]) → W.grownBy w' v.ownBlock → (v'.ownBlock = v.ownBlock ∨ v'.ownBlock = some (W.heap.size + 1)) → wpList P ops Q rest (a.put o.dst v') w') :
    wpList P ops Q (o :: rest) a (W.alloc (.cells arr e)) := by
  subst hgs harr
  refine wpList_append_own_at _ hgd s x t ho B e i z sz bytes ht hi hz hsize hby hzs hsz v l.length (l.flatMap cs) hs (World.ownsRow.alloc hown _) ⟨W.heap.size, 0, none⟩ 1 1 (cs y) hx (by rw [hone]; omega)
    ?_ (hone1 y) h63 hbytes (by simp; omega) ?_
  · intro j u hu
    rw [Addr.add_lit, Nat.zero_add, World.cell?_alloc_at _ _ _ _ rfl]
    simpa using hu
  · intro v' w' hown' hg _ hat
    refine h v' w' ?_ ((World.grownBy_alloc W _ v.ownBlock).trans hg) (by simpa using hat)
    unfold Own
    simpa [List.flatMap_append] using hown'

/-- What is below a bound stays as it is behind an append onto a row from that bound on. -/
theorem below_grown {B : Nat} {w0 W w' : World} {e : TypeId} {v : Value} {l : List α} (hb : Below B w0 W) (hown : Own cs sz e W B v l) (hB : B ≤ W.heap.size) (hg : W.grownBy w' v.ownBlock) : Below B w0 w' :=
  hb.grown hg hB fun k hk => (hown.lt k hk).1
end

/-- The call hands back a slice that reads as l. -/
def RetRow {α : Type} (cs : α → List Value) (sz : Nat) (l : List α) (e : Ending) (w : World) : Prop := ∃ A c, e = .returned (.slice A l.length c) ∧ RowOf cs sz w w.heap.size A l

/-- Calls one behind the other, each of which keeps what was there. -/
theorem below_then {a b c : World} (h : Below a.heap.size a b) (k : Below b.heap.size b c) : Below a.heap.size a c := h.trans (k.mono h.size)
theorem below_draws {a b : World} (h : Below a.heap.size a b) (n : Nat) : Below a.heap.size a (b.drewN n) := ⟨h.os, h.tape, h.output, h.size, h.block⟩

theorem drop_cons {α : Type} {l : List α} {k : Nat} {x : α} (hx : l[k]? = some x) : l.drop k = x :: l.drop (k + 1) := by
  have hlt : k < l.length := by
    rcases Nat.lt_or_ge k l.length with h | h
    · exact h
    · rw [List.getElem?_eq_none h] at hx; cases hx
  rw [List.drop_eq_getElem_cons hlt]
  rw [List.getElem?_eq_getElem hlt] at hx
  cases hx
  rfl
theorem take_snoc {α : Type} {l : List α} {k : Nat} {x : α} (hx : l[k]? = some x) : l.take (k + 1) = l.take k ++ [x] := by
  rw [List.take_add_one, hx]; rfl
theorem get_some {α : Type} {l : List α} {k : Nat} (h : k < l.length) : ∃ x, l[k]? = some x := ⟨l[k], List.getElem?_eq_getElem h⟩
end

section
open Go.RowKit
set_option linter.unusedVariables false
set_option linter.unusedSimpArgs false

theorem wrap_bmod (n : Int) : wrap64 n = Int.bmod n 18446744073709551616 := by
  unfold wrap64
  rw [Int.bmod_def]
  split <;> omega
theorem wrap_add_l (x y : Int) : wrap64 (wrap64 x + y) = wrap64 (x + y) := by simp only [wrap_bmod, Int.bmod_add_bmod]
theorem wrap_add_r (x y : Int) : wrap64 (x + wrap64 y) = wrap64 (x + y) := by simp only [wrap_bmod, Int.add_bmod_bmod]
theorem wrap_sub_l (x y : Int) : wrap64 (wrap64 x - y) = wrap64 (x - y) := by rw [Int.sub_eq_add_neg, wrap_add_l, Int.sub_eq_add_neg]
theorem wrap_mul_l (x y : Int) : wrap64 (wrap64 x * y) = wrap64 (x * y) := by simp only [wrap_bmod, Int.bmod_mul_bmod]
theorem wrap_mul_r (x y : Int) : wrap64 (x * wrap64 y) = wrap64 (x * y) := by simp only [wrap_bmod, Int.mul_bmod_bmod]
theorem wrap_in (x : Int) (h0 : -9223372036854775808 ≤ x) (h1 : x ≤ 9223372036854775807) : wrap64 x = x := by unfold wrap64; omega

set_option maxRecDepth 1000000 in
set_option maxHeartbeats 3200000 in
theorem lawRing (a b c : Int) (w : World) (ha0 : -9223372036854775808 ≤ a) (ha1 : a ≤ 9223372036854775807) (h : Glob w) :
    Calls Tryz.prog 7 #[.int .i64 a, .int .i64 b, .int .i64 c] w fun e w' => e = .returned (.bool true) ∧ Below w.heap.size w w' := by
  have HW := Lib.hid (awake_any w h)
  have A := Lib.hid (fun x y => add_any x y w)
  have S := Lib.hid (fun x y => sub_any x y w)
  have M := Lib.hid (fun x y => mul_any x y w)
  have N := Lib.hid (fun x => neg_any x w)
  have e1 : wrap64 (b + a) = wrap64 (a + b) := by rw [Int.add_comm]
  have e2 : wrap64 (b * a) = wrap64 (a * b) := by rw [Int.mul_comm]
  have e3 : wrap64 (wrap64 (a + b) - b) = a := by rw [wrap_sub_l, show a + b - b = a by omega, wrap_in a ha0 ha1]
  have e4 : wrap64 (a + wrap64 (-a)) = 0 := by rw [wrap_add_r, show a + -a = 0 by omega]; exact wrap_in 0 (by omega) (by omega)
  have e5 : wrap64 (a + wrap64 (-b)) = wrap64 (a - b) := by rw [wrap_add_r, Int.sub_eq_add_neg]
  have e6 : wrap64 (a + wrap64 (b + c)) = wrap64 (wrap64 (a + b) + c) := by rw [wrap_add_r, wrap_add_l, Int.add_assoc]
  have e7 : wrap64 (a * wrap64 (b * c)) = wrap64 (wrap64 (a * b) * c) := by rw [wrap_mul_r, wrap_mul_l, Int.mul_assoc]
  have e8 : wrap64 (wrap64 (a * b) + wrap64 (a * c)) = wrap64 (a * wrap64 (b + c)) := by rw [wrap_add_l, wrap_add_r, wrap_mul_r, Int.mul_add]
  have e9 : wrap64 (a * 1) = a := by rw [Int.mul_one, wrap_in a ha0 ha1]
  have e10 : wrap64 a = a := wrap_in a ha0 ha1
  clear h
  go_enter Tryz.func7, Tryz.ntmps7
  go_wp2_with (first | (go_at_call 29; refine (A.out _ _).mono ?_; rintro e w' ⟨rfl, rfl⟩) | (go_at_call 30; refine (M.out _ _).mono ?_; rintro e w' ⟨rfl, rfl⟩) | (go_at_call 31; refine (S.out _ _).mono ?_; rintro e w' ⟨rfl, rfl⟩) | (go_at_call 32; refine (N.out _).mono ?_; rintro e w' ⟨rfl, rfl⟩) | (go_at_call 18; refine HW.out.mono ?_; rintro e w1 ⟨rfl, hb⟩))
  go_ret
  exact ⟨rfl, hb⟩
end
end Go.Proofs.YtoonneminimbfaaGreatDoor
