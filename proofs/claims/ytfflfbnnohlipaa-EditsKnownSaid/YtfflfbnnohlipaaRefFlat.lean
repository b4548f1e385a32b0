/- emendref07.Flat. -/
import Derived.Test.YtfflfbnnohlipaaPart
import Derived.Test.YtfflfbnnohlipaaInvert
import Derived.Test.YtfflfbnnohlipaaMem2
namespace Go.Proofs.Ytfflfbnnohlipaa
open Go.RowKit
set_option linter.unusedVariables false
set_option linter.unusedSimpArgs false

/-- Cuts of a size that Flat is walked at. -/
def Fine (l : List RCut) : Prop := l.length ≤ 1000 ∧ ∀ x ∈ l, x.parts.length ≤ 100 ∧ ∀ p ∈ x.parts, p.text.size ≤ 1000000

theorem part_size {text s : ByteArray} {p : Prt} (ht : text.size ≤ 1000000) (hp : p.text.size ≤ 1000000) (h : partV text p = some s) : s.size ≤ 1000000 := by
  unfold partV at h
  split at h
  · simp only [Option.some.injEq] at h; subst h; exact hp
  · split at h
    · cases h
    · simp only [Option.some.injEq] at h; subst h
      rw [ByteArray.size_extract]; omega

theorem size_app (a b : ByteArray) : (a ++ b).data.toList = a.data.toList ++ b.data.toList := by simp
theorem array_back (S : ByteArray) : (⟨S.data.toList.toArray⟩ : ByteArray) = S := by cases S; simp

/-- Flat hands back m, or nothing and the error. -/
def RetFlat (text : ByteArray) (l : List RCut) (e : Ending) (w : World) : Prop :=
  (flatE text l = 0 ∧ RetRow0 Spl.cells 3 (flatS text l) e w) ∨ (flatE text l ≠ 0 ∧ e = .returned (.tuple #[.slice none 0 0, .int .i64 (flatE text l)]))

theorem ret_flat_err {text : ByteArray} {l : List RCut} {n : Int} {w : World} (h : flatL text l = .error n) (hn : n ≠ 0) : RetFlat text l (.returned (.tuple #[.slice none 0 0, .int .i64 n])) w := by
  have he : flatE text l = n := by simp [flatE, h]
  exact .inr ⟨by rw [he]; exact hn, by rw [he]⟩
theorem ret_flat_unfit {text : ByteArray} {l : List RCut} {m : List Spl} {w : World} (h : flatL text l = .ok m) (hf : fitsV text.size m = false) : RetFlat text l (.returned (.tuple #[.slice none 0 0, .int .i64 2])) w := by
  have he : flatE text l = 2 := by simp [flatE, h, hf]
  exact .inr ⟨by rw [he]; decide, by rw [he]⟩
theorem ret_flat_ok {text : ByteArray} {l : List RCut} {m : List Spl} {w : World} {A : Option Addr} {c : Nat} (h : flatL text l = .ok m) (hf : fitsV text.size m = true) (hr : Row w w.heap.size A m) :
    RetFlat text l (.returned (.tuple #[.slice A m.length c, .int .i64 0])) w := by
  have he : flatE text l = 0 := by simp [flatE, h, hf]
  have hs : flatS text l = m := by simp [flatS, h, hf]
  exact .inl ⟨he, A, c, by rw [hs], by rw [hs]; exact hr⟩

set_option maxRecDepth 100000 in
set_option maxHeartbeats 6400000 in
theorem refFlat_any (text : ByteArray) (A : Option Addr) (c : Nat) (l : List RCut) (w : World) (ht : text.size ≤ 1000000) (hl : Fine l) (hr : RowOf RCut.cells 3 w w.heap.size A l) (hdp : Deep w w.heap.size l) :
    Calls Try.prog 23 #[.string text, .slice A l.length c] w fun e w' => RetFlat text l e w' ∧ Below w.heap.size w w' := by
  obtain ⟨i33, hi33, hz0, hz1, hz2⟩ := info_parts Try.info33
  have hll := hl.1
  have HL := Lib.hid hl
  have HR := Lib.hid hr
  have HD := Lib.hid hdp
  clear hl hr hdp
  go_enter Try.func23, Try.ntmps23
  go_wp2_with fail
  go_loopw [6, 7] (fun v i wr => ∃ (k : Nat) (acc : List Spl), k ≤ l.length ∧ i = .int .i64 k ∧ flatL text (l.take k) = .ok acc ∧ OwnS wr w.heap.size v acc ∧ Below w.heap.size w wr) (fun _ i _ => l.length - (intOf i).toNat)
  case atStart => exact ⟨0, [], Nat.zero_le _, rfl, rfl, Own.nil_, Below.refl _ _⟩
  case round =>
    obtain ⟨k, acc, hk, rfl, hfl, hown, hb⟩ := hrel
    have HFL := Lib.hid hfl
    have HO := Lib.hid hown
    have HB := Lib.hid hb
    have hbs := hb.size
    have hacc := flatL_len hfl
    have hacc2 : acc.length ≤ 1000 := by rw [hacc, List.length_take]; omega
    have HA := Lib.hid hacc2
    clear hfl hown hb hacc hacc2
    by_cases hlt : k < l.length
    · obtain ⟨x, hx⟩ := get_some hlt
      obtain ⟨xf, xt, xA, xc, ps⟩ := x
      obtain ⟨b, off, hA, hbl, h1, h2, h3⟩ := RCut.at_ (HR.out.below HB.out (Nat.le_refl _)) hx
      have hxm := List.mem_of_getElem? hx
      have hpl := (HL.out.2 _ hxm).1
      have hpt := (HL.out.2 _ hxm).2
      have hrow := HD.out _ hxm
      have HX := Lib.hid hx
      have HPT := Lib.hid hpt
      have HROW := Lib.hid hrow
      subst hA
      clear hx hxm hpt hrow
      dsimp only at h1 h2 h3 hpl
      have hk0 : (0 : Int) ≤ (k : Int) := by omega
      have hk1 : (k : Int) < (l.length : Int) := by omega
      obtain ⟨wo, rfl⟩ : ∃ wo : World, wo = wr := ⟨_, rfl⟩
      go_wp2_with fail
      go_loopw [8, 9] (fun s j wx => ∃ (q : Nat) (S : ByteArray), q ≤ ps.length ∧ j = .int .i64 q ∧ s = .string S ∧ joinP text (ps.take q) = some S.data.toList ∧ S.size ≤ q * 1000000 ∧ Below wo.heap.size wo wx) (fun _ j _ => ps.length - (intOf j).toNat)
      case atStart => exact ⟨0, ⟨#[]⟩, Nat.zero_le _, rfl, rfl, rfl, Nat.le_refl 0, Below.refl _ _⟩
      case round =>
        obtain ⟨q, S, hq, rfl, rfl, hj, hS, hbx⟩ := hrel
        have g1 := (hbx.cell (p := ⟨b, off + k * 3, none⟩) (by simp; omega)).trans h1
        have g2 := (hbx.cell (p := ⟨b, off + k * 3 + 1, none⟩) (by simp; omega)).trans h2
        have g3 := (hbx.cell (p := ⟨b, off + k * 3 + 2, none⟩) (by simp; omega)).trans h3
        have HBX := Lib.hid hbx
        have hbxs := hbx.size
        have HJ := Lib.hid hj
        clear hbx hj
        by_cases hqt : q < ps.length
        · obtain ⟨p, hp⟩ := get_some hqt
          obtain ⟨b', off', hA', hbl', p1, p2, p3, p4⟩ := Prt.at_ ((HROW.out.below HB.out (Nat.le_refl _)).below HBX.out hbs) hp
          have HP := Lib.hid hp
          have hps := HPT.out p (List.mem_of_getElem? hp)
          have hpart := part_any text p wr ht
          have hq0 : (0 : Int) ≤ (q : Int) := by omega
          have hq1 : (q : Int) < (ps.length : Int) := by omega
          cases hpv : partV text p with
          | none =>
            have hc : Calls Try.prog 40 #[.string text, .agg #[.int .i64 p.frm, .int .i64 p.to, .string p.text, .bool p.new]] wr fun e w' => e = .returned (.tuple #[.string ⟨#[]⟩, .bool false]) ∧ Below wr.heap.size wr w' :=
              hpart.mono fun e w' ⟨h, hb⟩ => ⟨by rw [h, hpv]; rfl, hb⟩
            have HC := Lib.hid hc
            have HPV := Lib.hid hpv
            clear hc hpv hp hpart
            subst hA'
            clear HROW
            go_wp2_with (go_at_call 40; refine HC.out.mono ?_; rintro e w3 ⟨rfl, hb3⟩)
            go_ret2
            exact ⟨ret_flat_err (flatL_bad HX.out HFL.out (flatL_none (joinP_bad HP.out HPV.out))) (by decide), HB.out.trans ((below_then HBX.out hb3).mono hbs)⟩
          | some s =>
            have hss := part_size ht hps hpv
            have hc : Calls Try.prog 40 #[.string text, .agg #[.int .i64 p.frm, .int .i64 p.to, .string p.text, .bool p.new]] wr fun e w' => e = .returned (.tuple #[.string s, .bool true]) ∧ Below wr.heap.size wr w' :=
              hpart.mono fun e w' ⟨h, hb⟩ => ⟨by rw [h, hpv]; rfl, hb⟩
            have HC := Lib.hid hc
            have HPV := Lib.hid hpv
            clear hc hpv hp hpart
            subst hA'
            clear HROW
            have hsz : S.size + s.size ≤ (q + 1) * 1000000 := by omega
            go_wp2_with (go_at_call 40; refine HC.out.mono ?_; rintro e w3 ⟨rfl, hb3⟩)
            go_roundw
            case rel => exact ⟨q + 1, S ++ s, by omega, by go_num, rfl, by rw [size_app]; exact joinP_snoc HP.out HJ.out HPV.out, by rw [ByteArray.size_append]; exact hsz, below_then HBX.out hb3⟩
            case measure => simp [intOf]; omega
        · obtain rfl : q = ps.length := by omega
          have hj2 := HJ.out
          rw [List.take_length] at hj2
          have hS2 : S.size ≤ 100000000 := by omega
          have HJ2 := Lib.hid hj2
          clear hj2 HJ
          have HOW := Lib.hid (Own.below HO.out HBX.out)
          have HBW := Lib.hid (HB.out.trans (HBX.out.mono hbs))
          by_cases hlong : 65536 < S.size
          · go_wp2
            go_ret2
            exact ⟨ret_flat_err (flatL_bad HX.out HFL.out (flatL_long HJ2.out hlong)) (by decide), HBW.out⟩
          · have hbw := HBW.out.size
            have hbn : b < wr.heap.size := by omega
            have hb1 : acc.length + 1 ≤ maxLen := by have := HA.out; unfold maxLen; omega
            have hb2 : (acc.length + 1) * 32 ≤ 140737488355328 := by have := HA.out; omega
            have HB1 := Lib.hid hb1
            have HB2 := Lib.hid hb2
            have hno : ∀ u, Value.ownBlock u6 = some u → u ≠ b := by
              intro u hu e
              have := (Own.lt HO.out _ hu).1
              omega
            have HNO := Lib.hid hno
            clear hb1 hb2 hno h1 h2 h3 HROW
            go_wp2
            go_region_held3 (fun w' => w'.cell? ⟨b, off + k * 3, none⟩ = some (.int .i64 xf) ∧ w'.cell? ⟨b, off + k * 3 + 1, none⟩ = some (.int .i64 xt))
              (first
                | go_keep
                | (go_split_ands
                   refine ⟨?_, ?_⟩
                   · (rw [hgrow.cell_far _ (by simp; omega) (by intro e; exact HNO.out _ e.symm rfl)]; assumption)
                   · (rw [hgrow.cell_far _ (by simp; omega) (by intro e; exact HNO.out _ e.symm rfl)]; assumption)))
              ((refine step_append_rec (cs := Spl.cells) (by rfl) _ _ _ (by rfl) 33 i33 _ 32 Try.underlying22 hi33 hz0 hz1 hz2 rfl (by omega) Spl.len Spl.one _ w.heap.size wr.heap.size _ acc ⟨xf, xt, S⟩ _ (0, 0) (by rfl) (by rfl) (by rfl) (by exact new_at (w := wr) rfl) (Own.drew (Own.alloc HOW.out _)) HB1.out HB2.out (by simp; omega) (wr.heap.size + 1) (by simp) ?_; intro gg cap w1 hown1 hgrow hat hlt))
            go_wp2
            go_roundw
            case rel =>
              refine ⟨k + 1, acc ++ [⟨xf, xt, S⟩], by omega, by go_num, ?_, hown1, below_grown ((HBW.out.alloc hbw _).drew) (Own.drew (Own.alloc HOW.out _)) (by simp; omega) hgrow⟩
              have := flatL_snoc HX.out HFL.out HJ2.out (by rw [size_list]; exact hlong)
              rw [array_back] at this
              exact this
            case measure => simp [intOf]; omega
    · obtain rfl : k = l.length := by omega
      have hfl := HFL.out
      rw [List.take_length] at hfl
      obtain ⟨A', c', hv, hrow⟩ := Own.row Spl.len HO.out
      have hfits := fits_any text.size A' c' acc wr (by have := HA.out; omega) hrow
      have HF := Lib.hid hfl
      have HRW := Lib.hid hrow
      subst hv
      clear hfl hrow
      cases hfv : fitsV text.size acc
      · rw [hfv] at hfits
        have HC := Lib.hid hfits
        have HFV := Lib.hid hfv
        clear hfits hfv
        go_wp2_with (go_at_call 30; refine HC.out.mono ?_; rintro e w' ⟨rfl, q, rfl⟩)
        go_ret2
        exact ⟨ret_flat_unfit HF.out HFV.out, Go.RowKit.Below.trans HB.out (below_draws (Below.refl _ _) q |>.mono hbs)⟩
      · rw [hfv] at hfits
        have HC := Lib.hid hfits
        have HFV := Lib.hid hfv
        clear hfits hfv
        go_wp2_with (go_at_call 30; refine HC.out.mono ?_; rintro e w' ⟨rfl, q, rfl⟩)
        go_ret2
        exact ⟨ret_flat_ok HF.out HFV.out (RowOf.drewN HRW.out q), Go.RowKit.Below.trans HB.out (below_draws (Below.refl _ _) q |>.mono hbs)⟩
end Go.Proofs.Ytfflfbnnohlipaa
