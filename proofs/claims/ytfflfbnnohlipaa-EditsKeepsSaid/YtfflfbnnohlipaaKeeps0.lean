/- emendlaw07.EditsKeeps: the walk. -/
import Derived.Test.YtfflfbnnohlipaaLawKeeps
namespace Go.Proofs.Ytfflfbnnohlipaa
open Go.RowKit
set_option linter.unusedVariables false
set_option linter.unusedSimpArgs false

theorem byte_eq {S t : ByteArray} {q k : Nat} (hq : q < S.size) (hk : k < t.size) (h : S.data.toList[q]? = t.data.toList[k]?) : (((S[q]'hq).toNat : Int) != ((t[k]'hk).toNat : Int)) = false := by
  have h1 : S.data.toList[q]? = some (S[q]'hq) := by
    rw [Array.getElem?_toList, Array.getElem?_eq_getElem (by exact hq)]; rfl
  have h2 : t.data.toList[k]? = some (t[k]'hk) := by
    rw [Array.getElem?_toList, Array.getElem?_eq_getElem (by exact hk)]; rfl
  rw [h1, h2] at h
  have h3 := Option.some.inj h
  rw [h3]
  simp

set_option maxRecDepth 100000 in
set_option maxHeartbeats 3200000 in
theorem lawKeeps (text : ByteArray) (A : Option Addr) (c : Nat) (l : List Spl) (w : World) (htx : text.size ≤ 9223372036854775807) (hl : l.length ≤ 9223372036854775807) (hr : Row w w.heap.size A l) (hfit : Fit l) :
    Calls Try.prog 4 #[.string text, .slice A l.length c] w fun e w' => e = .returned (.bool true) ∧ Below w.heap.size w w' := by
  have hsm := small_few l
  have hln := fewV_len l
  have h1 := few_any A c l w hl hr hfit
  have h0 := cut_any text w htx
  have hts := cutV_size text
  generalize fewV l = m at *
  generalize cutV text = t at *
  have H1 := Lib.hid h1
  have H0 := Lib.hid h0
  have HS := Lib.hid hsm
  have HL := Lib.hid hln
  clear hsm h1 hr hfit hl h0 htx
  by_cases he : applyE t m = 0
  · have HE := Lib.hid he
    have hend := keeps_end he hln HS.out hts
    have HEND := Lib.hid hend
    have hround := fun k (hk : k < t.size) => keeps_round (k := k) he hln HS.out hts hk
    have HRND := Lib.hid hround
    have hbS : (applyB t m).size ≤ 65536 := by
      have := texts_le HS.out
      have h3 := hend.2.2
      have h4 : cntK m 0 t.size ≤ t.size := cnt_le m 0 t.size
      omega
    clear he hend hround
    go_enter Try.func4, Try.ntmps4
    go_wp2_with fail
    refine H0.out.mono ?_
    rintro e w1 ⟨rfl, rfl⟩
    go_wp2_with fail
    refine H1.out.mono ?_
    rintro e w1 ⟨⟨A1, c1, rfl, r1⟩, hb1⟩
    go_wp2_with fail
    refine (apply_small A1 c1 m t _ HL.out HS.out (by omega) r1).mono ?_
    rintro e w2 ⟨hret, hb2⟩
    have hret2 : e = .returned (.tuple #[.string (applyB t m), .int .i64 0]) := by rw [hret, HE.out]
    subst hret2
    clear hret
    have R1 := Lib.hid (r1.after (Nat.le_refl _) hb2)
    have HB := Lib.hid (below_then hb1 hb2)
    clear r1 hb1 hb2
    generalize hS : applyB t m = S at *
    have HSS := Lib.hid hS
    clear hS
    go_wp2_with fail
    go_loopw [7, 8, 9] (fun was many i wr => ∃ (k : Nat) (u : Int), k ≤ t.size ∧ i = .int .i64 k ∧ was = .int .i64 u ∧ many = .int .i64 (cntK m 0 k) ∧ u < (cntK m 0 k : Int) + addV m k ∧ Below w2.heap.size w2 wr) (fun _ _ i _ => t.size - (intOf i).toNat)
    case atStart => exact ⟨0, -1, Nat.zero_le _, rfl, rfl, rfl, by omega, Below.refl _ _⟩
    case round =>
      obtain ⟨k, u, hk, rfl, rfl, rfl, hu, hb⟩ := hrel
      by_cases hlt : k < t.size
      · have hmv := moved_any A1 c1 m k wr (by have := HL.out; omega) HS.out (R1.out.after (Nat.le_refl _) hb)
        have hcl := cnt_le m 0 k
        rcases HRND.out k hlt with ⟨g1, g2, g3⟩ | ⟨g1, g2, g3, q, g4, g5, g6, g7⟩
        · have hmv2 : Calls Try.prog 12 #[.slice A1 m.length c1, .int .i64 k] wr fun e w' => e = .returned (.tuple #[.int .i64 0, .bool false]) ∧ Below wr.heap.size wr w' :=
            hmv.mono fun e w' ⟨h, hb⟩ => ⟨by rw [h]; simp only [movedI, g1]; rfl, hb⟩
          have HM := Lib.hid hmv2
          have HG := Lib.hid g2
          have HBB := Lib.hid hb
          clear hmv hmv2 g1 g2 hb
          go_wp2_with (go_at_call 12; refine HM.out.mono ?_; rintro e w3 ⟨rfl, hb3⟩)
          go_roundw
          case rel => exact ⟨k + 1, u, by omega, by go_num, rfl, by rw [HG.out], by rw [HG.out]; omega, HBB.out.trans (hb3.mono HBB.out.size)⟩
          case measure => simp [intOf]; omega
        · have hmv2 : Calls Try.prog 12 #[.slice A1 m.length c1, .int .i64 k] wr fun e w' => e = .returned (.tuple #[.int .i64 (q : Int), .bool true]) ∧ Below wr.heap.size wr w' :=
            hmv.mono fun e w' ⟨h, hb⟩ => ⟨by rw [h, g1, g4], hb⟩
          have HM := Lib.hid hmv2
          have HG := Lib.hid g2
          have HBB := Lib.hid hb
          have HG7 := Lib.hid g7
          have hu2 : u < (q : Int) := by omega
          have d1 : decide ((q : Int) ≤ u) = false := by simp; omega
          have d2 : decide (S.size ≤ q) = false := by simp; omega
          have d3 := byte_eq g6 hlt g7
          have i1 : (0 : Int) ≤ (q : Int) := by omega
          have i2 : (q : Int) < (S.size : Int) := by omega
          have i3 : (0 : Int) ≤ (k : Int) := by omega
          have i4 : (k : Int) < (t.size : Int) := by omega
          have HG5 := Lib.hid g5
          clear hmv hmv2 g1 g2 hb g4 g7 g5
          go_wp2_with (first | (go_at_call 12; refine HM.out.mono ?_; rintro e w3 ⟨rfl, hb3⟩) | go_quiet (fail))
          go_roundw
          case rel => exact ⟨k + 1, (q : Int), by omega, by go_num, rfl, by rw [HG.out]; go_num, by have := HG5.out; rw [HG.out]; omega, HBB.out.trans ((below_draws hb3 _).mono HBB.out.size)⟩
          case measure => simp [intOf]; omega
      · obtain rfl : k = t.size := by omega
        obtain ⟨e1, e2, e3⟩ := HEND.out
        have hcl := cnt_le m 0 t.size
        have hmv := fun (wx : World) (hbx : Below w2.heap.size w2 wx) => moved_any A1 c1 m t.size wx (by have := HL.out; omega) HS.out (R1.out.after (Nat.le_refl _) hbx)
        have hmv2 : ∀ (wx : World) (hbx : Below w2.heap.size w2 wx), Calls Try.prog 12 #[.slice A1 m.length c1, .int .i64 t.size] wx fun e w' => e = .returned (.tuple #[.int .i64 (S.size : Int), .bool true]) ∧ Below wx.heap.size wx w' :=
          fun wx hbx => (hmv wx hbx).mono fun e w' ⟨h, hb⟩ => ⟨by rw [h, e1, e2], hb⟩
        have HM := Lib.hid hmv2
        have HBB := Lib.hid hb
        have HE3 := Lib.hid e3
        clear hmv hmv2 e1 e2 e3 hb hu hlt
        go_wp2_with fail
        go_loopw [8, 12] (fun many i wx => ∃ (k : Nat), k ≤ m.length ∧ i = .int .i64 k ∧ many = .int .i64 ((cntK m 0 t.size : Int) + textsV (m.take k)) ∧ wr = wx) (fun _ i _ => m.length - (intOf i).toNat)
        case atStart => exact ⟨0, Nat.zero_le _, rfl, by simp [textsV], rfl⟩
        case round =>
          obtain ⟨k, hk, rfl, rfl, rfl⟩ := hrel
          by_cases hlt : k < m.length
          · obtain ⟨x, hx⟩ := get_some hlt
            obtain ⟨b, off, rfl, hbl, q1, q2, q3⟩ := Spl.at_ (R1.out.below HBB.out (Nat.le_refl _)) hx
            have ht1 := texts_take hx
            have hxs := HS.out x (List.mem_of_getElem? hx)
            have htk : textsV (m.take k) ≤ 9000 := by
              have h1 := texts_le (l := m.take k) (fun y hy => HS.out y (List.mem_of_mem_take hy))
              have h2 : (m.take k).length ≤ 30 := by rw [List.length_take]; omega
              omega
            have HT := Lib.hid ht1
            clear ht1 hx
            go_wp2
            go_roundw
            case rel => exact ⟨k + 1, by omega, by go_num, by rw [HT.out]; go_num, trivial⟩
            case measure => simp [intOf]; omega
          · obtain rfl : k = m.length := by omega
            rw [List.take_length]
            have hsum : ((cntK m 0 t.size : Int) + (textsV m : Int)) = (S.size : Int) := by have := HE3.out; omega
            rw [hsum]
            have HMM := Lib.hid (HM.out wr HBB.out)
            clear HM hsum
            go_wp2_with (first | (go_at_call 12; refine HMM.out.mono ?_; rintro e w5 ⟨rfl, hb5⟩) | (go_at_call 14; refine (awake_any _).mono ?_; rintro e w6 ⟨rfl, hb6⟩))
            go_ret
            exact ⟨rfl, HB.out.trans (((HBB.out.trans (hb5.mono HBB.out.size)).trans (hb6.mono (Nat.le_trans HBB.out.size hb5.size))).mono HB.out.size)⟩
  · have HE := Lib.hid he
    clear he
    go_enter Try.func4, Try.ntmps4
    go_wp2_with fail
    refine H0.out.mono ?_
    rintro e w1 ⟨rfl, rfl⟩
    go_wp2_with fail
    refine H1.out.mono ?_
    rintro e w1 ⟨⟨A1, c1, rfl, r1⟩, hb1⟩
    go_wp2_with fail
    refine (apply_small A1 c1 m t _ HL.out HS.out (by omega) r1).mono ?_
    rintro e w2 ⟨hret, hb2⟩
    unfold RetApply at hret
    subst hret
    have hne : (applyE t m != 0) = true := by have := HE.out; simpa using this
    have HB := Lib.hid (below_then hb1 hb2)
    clear r1 hb1 hb2
    generalize applyE t m = ee at *
    generalize applyB t m = S at *
    go_wp2_with (go_at_call 14; refine (awake_any _).mono ?_; rintro e w6 ⟨rfl, hb6⟩)
    go_ret
    exact ⟨rfl, below_then HB.out hb6⟩
end Go.Proofs.Ytfflfbnnohlipaa
