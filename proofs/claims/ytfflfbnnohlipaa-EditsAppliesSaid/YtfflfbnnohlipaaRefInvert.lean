/- emendref07.Invert. -/
import Derived.Test.YtfflfbnnohlipaaRefApply
import Derived.Test.YtfflfbnnohlipaaInvert
import Derived.Test.YtfflfbnnohlipaaLawKeeps
namespace Go.Proofs.Ytfflfbnnohlipaa
open Go.RowKit
set_option linter.unusedVariables false
set_option linter.unusedSimpArgs false

/-- How many bytes the Texts have. -/
def sumT : List Spl → Nat
  | [] => 0
  | x :: r => x.text.size + sumT r
/-- How many bytes go. -/
def delS : List Spl → Int
  | [] => 0
  | x :: r => (x.to - x.frm) + delS r
theorem dV_is : ∀ l : List Spl, dV l = (sumT l : Int) - delS l := by
  intro l
  induction l with
  | nil => rfl
  | cons x r ih => simp only [dV, sumT, delS, ih]; omega
theorem sumT_append (a b : List Spl) : sumT (a ++ b) = sumT a + sumT b := by
  induction a with
  | nil => simp [sumT]
  | cons x a ih => simp only [List.cons_append, sumT, ih]; omega
theorem sumT_small : ∀ l : List Spl, Small l → sumT l ≤ 300 * l.length := by
  intro l
  induction l with
  | nil => intro _; simp [sumT]
  | cons x r ih =>
    intro hs
    have h1 := hs x (List.mem_cons_self ..)
    have h2 := ih fun y hy => hs y (List.mem_cons_of_mem _ hy)
    simp only [sumT, List.length_cons]; omega

theorem cut_count {n : Int} : ∀ (l : List Spl) (was i : Nat) (x : Spl) (f : Nat), fitsFrom n was l = true → l[i]? = some x → x.frm = (f : Int) → was ≤ f ∧ (cntK l was (f - was) : Int) + delS (l.take i) = (f : Int) - was := by
  intro l
  induction l with
  | nil => intro was i x f _ hx _; simp at hx
  | cons y r ih =>
    intro was i x f hf hx hxf
    rw [fitsFrom] at hf
    split at hf
    · cases hf
    rename_i hno
    obtain ⟨yf, hyf⟩ := Int.eq_ofNat_of_zero_le (show 0 ≤ y.frm by omega)
    obtain ⟨yt, hyt⟩ := Int.eq_ofNat_of_zero_le (show 0 ≤ y.to by omega)
    have hahead : ∀ p : Nat, was ≤ p → p < was + (yf - was) → keptV (y :: r) (p : Int) = true := fun p h1 h2 => by
      obtain ⟨_, _, hk⟩ := ahead_of r y.to p hf (by omega)
      rw [kept_cons, hk]
      have : ¬ y.frm ≤ (p : Int) := by omega
      simp [this]
    cases i with
    | zero =>
      simp only [List.getElem?_cons_zero, Option.some.injEq] at hx
      subst hx
      have hff : f = yf := by omega
      subst hff
      refine ⟨by omega, ?_⟩
      rw [cnt_all hahead]
      simp only [List.take_zero, delS]
      omega
    | succ i =>
      rw [List.getElem?_cons_succ] at hx
      obtain ⟨h1, h2⟩ := ih yt i x f (by rw [← hyt]; exact hf) hx hxf
      refine ⟨by omega, ?_⟩
      rw [show f - was = (yf - was) + ((yt - yf) + (f - yt)) by omega, cnt_add, cnt_add, cnt_all hahead]
      rw [cnt_none (l := y :: r) (a := was + (yf - was)) (b := yt - yf) (fun p h1 h2 => by
        rw [kept_cons]
        have a1 : y.frm ≤ (p : Int) := by omega
        have a2 : (p : Int) < y.to := by omega
        simp [a1, a2])]
      rw [show was + (yf - was) + (yt - yf) = yt by omega, cnt_congr (l := y :: r) (m := r) (a := yt) (b := f - yt) (fun p h1 h2 => by
        rw [kept_cons]
        have a2 : ¬ (p : Int) < y.to := by omega
        simp [a2])]
      simp only [List.take_succ_cons, delS]
      omega

theorem from_is {n : Int} {l : List Spl} {i : Nat} {x : Spl} {f : Nat} (hf : fitsFrom n 0 l = true) (hx : l[i]? = some x) (hxf : x.frm = (f : Int)) : (cntK l 0 f : Int) + (sumT (l.take i) : Int) = x.frm + dV (l.take i) := by
  obtain ⟨_, h⟩ := cut_count l 0 i x f hf hx hxf
  rw [Nat.sub_zero] at h
  rw [dV_is]
  omega

set_option maxRecDepth 100000 in
set_option maxHeartbeats 6400000 in
theorem refInvert_no (A : Option Addr) (c : Nat) (m : List Spl) (text : ByteArray) (w : World) (hm : m.length ≤ 30) (hs : Small m) (ht : text.size ≤ 65536) (hr : Row w w.heap.size A m) (he : applyE text m ≠ 0) :
    Calls Try.prog 27 #[.string text, .slice A m.length c] w fun e w' => e = .returned (.tuple #[.slice none 0 0, .int .i64 (applyE text m)]) ∧ Below w.heap.size w w' := by
  have hc := refApply_any A c m text w (by omega) (by omega) (fun x hx => by have := hs x hx; omega) hr
  unfold RetApply at hc
  have hne : (applyE text m != 0) = true := by simpa using he
  generalize applyE text m = ee at *
  generalize applyB text m = S at *
  have HC := Lib.hid hc
  clear hc he hs hr
  go_enter Try.func27, Try.ntmps27
  go_wp2_with (go_at_call 26; refine HC.out.mono ?_; rintro e w1 ⟨rfl, hb1⟩)
  go_ret2
  exact ⟨rfl, hb1⟩

set_option maxRecDepth 100000 in
set_option maxHeartbeats 6400000 in
theorem refInvert_yes (A : Option Addr) (c : Nat) (m : List Spl) (text : ByteArray) (w : World) (hm : m.length ≤ 30) (hs : Small m) (ht : text.size ≤ 65536) (hr : Row w w.heap.size A m) (he : applyE text m = 0) :
    Calls Try.prog 27 #[.string text, .slice A m.length c] w fun e w' => RetRow0 Spl.cells 3 (invertV text m) e w' ∧ Below w.heap.size w w' := by
  obtain ⟨i33, hi33, hz0, hz1, hz2⟩ := info_parts Try.info33
  have hf : fitsFrom text.size 0 m = true := by
    unfold applyE at he
    split at he
    · assumption
    · cases he
  have hc := refApply_any A c m text w (by omega) (by omega) (fun x hx => by have := hs x hx; omega) hr
  unfold RetApply at hc
  rw [he] at hc
  generalize applyB text m = S at *
  have HC := Lib.hid hc
  have HF := Lib.hid hf
  have HS := Lib.hid hs
  have HR := Lib.hid hr
  clear hc he hs hr hf
  go_enter Try.func27, Try.ntmps27
  go_wp2_with (go_at_call 26; refine HC.out.mono ?_; rintro e w1 ⟨rfl, hb1⟩)
  go_loopw [8, 9] (fun v i wr => ∃ (k : Nat), k ≤ m.length ∧ i = .int .i64 k ∧ OwnS wr w.heap.size v (invertFrom text 0 (m.take k)) ∧ Below w.heap.size w wr) (fun _ i _ => m.length - (intOf i).toNat)
  case atStart => exact ⟨0, Nat.zero_le _, rfl, Own.nil_, hb1⟩
  case round =>
    clear hb1 HC
    obtain ⟨k, hk, rfl, hown, hb⟩ := hrel
    have HO := Lib.hid hown
    have HB := Lib.hid hb
    have hbs := hb.size
    clear hown hb
    by_cases hlt : k < m.length
    · obtain ⟨x, hx⟩ := get_some hlt
      obtain ⟨s1, s2, s3, s4, s5, s6, s7, s8, s9⟩ := invert_step HF.out HS.out hm hx
      obtain ⟨f, hxf⟩ := Int.eq_ofNat_of_zero_le s6
      have hfrom := from_is HF.out hx hxf
      obtain ⟨xf, xt, xx⟩ := x
      obtain ⟨b, off, hA, hbl, h1, h2, h3⟩ := Spl.at_ (HR.out.below HB.out (Nat.le_refl _)) hx
      dsimp only at s1 s2 s7 s8 s9 hxf hfrom h1 h2 h3
      subst hxf
      have HX := Lib.hid hx
      have HFR := Lib.hid hfrom
      have HS1 := Lib.hid s1
      subst hA
      clear hx hfrom s1
      have hft : (f : Int) ≤ text.size := by omega
      obtain ⟨wo, rfl⟩ : ∃ wo : World, wo = wr := ⟨_, rfl⟩
      have HKP := Lib.hid (fun p : Nat => kept_any (some ⟨b, off, none⟩) c m (p : Int) wo (by omega) ((HR.out.below HB.out (Nat.le_refl _)).more hbs))
      go_wp2_with fail
      go_loopw [10, 11] (fun u j wx => ∃ (q : Nat), q ≤ f ∧ j = .int .i64 q ∧ u = .int .i64 (cntK m 0 q) ∧ wx = wo) (fun _ j _ => f - (intOf j).toNat)
      case atStart => exact ⟨0, Nat.zero_le _, rfl, rfl, rfl⟩
      case round =>
        obtain ⟨q, hq, rfl, rfl, rfl⟩ := hrel
        have hcl := cnt_le m 0 q
        by_cases hqf : q < f
        · have hcs : cntK m 0 (q + 1) = cntK m 0 q + (if keptV m ((0 + q : Nat) : Int) then 1 else 0) := rfl
          rw [Nat.zero_add] at hcs
          have hqf2 : (q : Int) < (f : Int) := by omega
          cases hkp : keptV m (q : Int)
          · rw [hkp] at hcs
            have HKQ := Lib.hid (HKP.out q)
            have HKV := Lib.hid hkp
            have HCS := Lib.hid hcs
            clear hkp hcs
            go_wp2_with (go_at_call 32; refine HKQ.out.mono ?_; rw [HKV.out]; rintro e w3 ⟨rfl, rfl⟩)
            go_roundw
            case rel => exact ⟨q + 1, by omega, by go_num, by rw [HCS.out]; rfl, trivial⟩
            case measure => simp [intOf]; omega
          · rw [hkp] at hcs
            have HKQ := Lib.hid (HKP.out q)
            have HKV := Lib.hid hkp
            have HCS := Lib.hid hcs
            clear hkp hcs
            go_wp2_with (go_at_call 32; refine HKQ.out.mono ?_; rw [HKV.out]; rintro e w3 ⟨rfl, rfl⟩)
            go_roundw
            case rel => exact ⟨q + 1, by omega, by go_num, by rw [HCS.out]; go_num, trivial⟩
            case measure => simp [intOf]; omega
        · obtain rfl : q = f := by omega
          have hnlt : ¬ ((q : Int) < (q : Int)) := by omega
          have hsm := sumT_small (m.take k) (fun y hy => HS.out y (List.mem_of_mem_take hy))
          rw [List.length_take] at hsm
          have hsm2 : sumT (m.take k) ≤ 9000 := by omega
          have hctf : cntK m 0 q ≤ 65536 := by omega
          obtain ⟨cq, hcq⟩ : ∃ cq, cntK m 0 q = cq := ⟨_, rfl⟩
          rw [hcq] at hctf hcl
          have HCQ := Lib.hid hcq
          rw [hcq]
          clear hcq
          go_wp2_with fail
          go_loopw [10, 12] (fun u j wx => ∃ (p : Nat), p ≤ k ∧ j = .int .i64 p ∧ u = .int .i64 ((cq : Int) + (sumT (m.take p) : Int)) ∧ wx = wr) (fun _ j _ => k - (intOf j).toNat)
          case atStart => exact ⟨0, Nat.zero_le _, rfl, by simp [sumT], rfl⟩
          case round =>
            obtain ⟨p, hp, rfl, rfl, rfl⟩ := hrel
            by_cases hpk : p < k
            · obtain ⟨y, hy⟩ := get_some (l := m) (k := p) (by omega)
              obtain ⟨yf, yt, yx⟩ := y
              obtain ⟨b', off', hA', hbl', g1, g2, g3⟩ := Spl.at_ (HR.out.below HB.out (Nat.le_refl _)) hy
              injection hA' with hA'
              injection hA' with e1 e2 _
              subst e1 e2
              dsimp only at g1 g2 g3
              have hys := HS.out _ (List.mem_of_getElem? hy)
              dsimp only at hys
              have hst : sumT (m.take (p + 1)) = sumT (m.take p) + yx.size := by rw [take_snoc hy, sumT_append]; simp [sumT]
              have hsp := sumT_small (m.take p) (fun y hy => HS.out y (List.mem_of_mem_take hy))
              rw [List.length_take] at hsp
              have hsp2 : sumT (m.take p) ≤ 9000 := by omega
              have HST := Lib.hid hst
              have hp1 : (p : Int) < (m.length : Int) := by omega
              have hp0 : (0 : Int) ≤ (p : Int) := by omega
              clear hy hst hsp h1 h2 h3
              go_wp2
              go_roundw
              case rel => exact ⟨p + 1, by omega, by go_num, by rw [HST.out]; go_num, trivial⟩
              case measure => simp [intOf]; omega
            · obtain rfl : p = k := by omega
              have hfr := HFR.out
              rw [HCQ.out] at hfr
              obtain ⟨F, hF⟩ : ∃ F : Int, (cq : Int) + (sumT (m.take p) : Int) = F := ⟨_, rfl⟩
              rw [hF] at hfr
              rw [hF]
              have hF0 : 0 ≤ F ∧ F ≤ 100000 := by omega
              have HFF := Lib.hid hfr
              clear hfr hF hnlt hsm hsm2 hctf hcl
              have hlen : (invertFrom text 0 (m.take p)).length ≤ 30 := by rw [invert_len, List.length_take]; omega
              have hb1 : (invertFrom text 0 (m.take p)).length + 1 ≤ maxLen := by unfold maxLen; omega
              have hb2 : ((invertFrom text 0 (m.take p)).length + 1) * 32 ≤ 140737488355328 := by omega
              have HB1 := Lib.hid hb1
              have HB2 := Lib.hid hb2
              have hwp : IntKind.i64.wrap (F + (xx.size : Int)) = F + (xx.size : Int) := Go.IntWalk.i64_in _ (by omega)
              have hp1 : (p : Int) < (m.length : Int) := by omega
              have hp0 : (0 : Int) ≤ (p : Int) := by omega
              have hq0 : (0 : Int) ≤ (q : Int) := by omega
              clear hlen hb1 hb2
              go_wp2_with fail
              go_region_held3 (fun w' => w'.cell? ⟨b, off + p * 3, none⟩ = some (.int .i64 q) ∧ w'.cell? ⟨b, off + p * 3 + 1, none⟩ = some (.int .i64 xt) ∧ w'.cell? ⟨b, off + p * 3 + 2, none⟩ = some (.string xx))
                (first
                  | go_keep
                  | (go_split_ands
                     refine ⟨?_, ?_, ?_⟩
                     · (rw [hgrow.cell_far _ (by simp; omega) (by intro e; have := (Own.lt HO.out _ e.symm).1; simp only [] at this; omega)]; assumption)
                     · (rw [hgrow.cell_far _ (by simp; omega) (by intro e; have := (Own.lt HO.out _ e.symm).1; simp only [] at this; omega)]; assumption)
                     · (rw [hgrow.cell_far _ (by simp; omega) (by intro e; have := (Own.lt HO.out _ e.symm).1; simp only [] at this; omega)]; assumption)))
                ((refine step_append_rec (cs := Spl.cells) (by rfl) _ _ _ (by rfl) 33 i33 _ 32 Try.underlying22 hi33 hz0 hz1 hz2 rfl (by omega) Spl.len Spl.one _ w.heap.size (wr.heap.size) _ (invertFrom text 0 (m.take p)) ⟨F, F + (xx.size : Int), text.extract q xt.toNat⟩ _ (0, 0) (by rfl) (by rfl) (by rfl) (by exact new_at (w := wr) (by simp)) (Own.drew (Own.alloc HO.out _)) HB1.out HB2.out (by simp; omega) (wr.heap.size + 1) (by simp) ?_; intro gg cap w1 hown1 hgrow hat hlt))
              clear hwp
              go_wp2
              go_roundw
              case rel =>
                refine ⟨p + 1, by omega, by go_num, ?_, below_grown ((HB.out.alloc hbs _).drew) (Own.drew (Own.alloc HO.out _)) (by simp; omega) hgrow⟩
                have e1 : invertFrom text 0 (m.take (p + 1)) = invertFrom text 0 (m.take p) ++ [⟨F, F + (xx.size : Int), text.extract q xt.toNat⟩] := by
                  rw [take_snoc HX.out, invert_append, Int.zero_add, HFF.out]
                  rfl
                rw [e1]
                exact hown1
              case measure => simp [intOf]; omega
    · obtain rfl : k = m.length := by omega
      have ho := HO.out
      rw [List.take_length] at ho
      obtain ⟨A', c', rfl, hrow⟩ := Own.row Spl.len ho
      have HROW := Lib.hid hrow
      clear hrow ho
      go_wp2
      go_ret2
      exact ⟨⟨A', c', rfl, HROW.out⟩, HB.out⟩
end Go.Proofs.Ytfflfbnnohlipaa
