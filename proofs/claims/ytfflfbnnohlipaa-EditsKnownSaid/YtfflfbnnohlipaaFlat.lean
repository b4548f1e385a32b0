/- edits.Flat. -/
import Derived.Test.YtfflfbnnohlipaaRefFlat
import Derived.Test.YtfflfbnnohlipaaBuilder
namespace Go.Proofs.Ytfflfbnnohlipaa
open Go.RowKit
set_option linter.unusedVariables false
set_option linter.unusedSimpArgs false

theorem Own.upto {α : Type} {cs : α → List Value} {sz : Nat} {e : TypeId} {w w' : World} {B B' : Nat} {v : Value} {l : List α} (h : Own cs sz e w B v l) (hb : Below B' w w') (hlt : ∀ k, v.ownBlock = some k → k < B') : Own cs sz e w' B v l := by
  refine ⟨h.1, ?_⟩
  rcases h.2 with hn | ⟨g, cap, cur, rfl, hB, hgg, rest⟩
  · exact .inl hn
  · exact .inr ⟨g, cap, cur, rfl, hB, by rw [hb.block g (hlt g rfl)]; exact hgg, rest⟩

theorem isBuilder_below {T e : TypeId} {B b : Nat} {bs : List Value} {w w' : World} (h : Lib.IsBuilder T e B b bs w) (hb : Below w.heap.size w w') : Lib.IsBuilder T e B b bs w' := by
  have key : ∀ p, Lib.BuilderAt T e B b p bs w → Lib.BuilderAt T e B b p bs w' := by
    rintro p ⟨h1, v, h2, h3, h4⟩
    refine ⟨h1, v, by rw [hb.block b (Array.getElem?_eq_some_iff.1 h2).1]; exact h2, ⟨h3.1, ?_⟩, h4⟩
    rcases h3.2 with hn | ⟨g, cap, cur, rfl, hB, hgg, rest⟩
    · exact .inl hn
    · exact .inr ⟨g, cap, cur, rfl, hB, by rw [hb.block g (Array.getElem?_eq_some_iff.1 hgg).1]; exact hgg, rest⟩
  rcases h with h | h
  · exact .inl (key _ h)
  · exact .inr (key _ h)
theorem strCells_eq (s : ByteArray) : Lib.strCells s = Lib.byteCells s.data.toList := rfl

/-- The bytes that Flat's builder holds when its parts so far come to acc. -/
def Held (acc bs : List UInt8) : Prop := (acc.length ≤ 65536 ∧ bs = acc) ∨ (65536 < acc.length ∧ 65536 < bs.length ∧ bs.length ≤ acc.length)

theorem check_fits {n : Int} {m : List Spl} (h : fitsV n m = false) : checkV n m = 2 := by
  unfold checkV
  rw [if_neg]
  rintro ⟨h1, h2⟩
  simp [fitsV, h1] at h
  omega
theorem check_fits2 {n : Int} {m : List Spl} (h : fitsV n m = true) : checkV n m = 0 := by
  simp only [fitsV, Bool.and_eq_true, decide_eq_true_eq] at h
  rw [checkV, if_pos ⟨h.2, h.1⟩]

theorem held_write {acc bs : List UInt8} (s : List UInt8) (h : Held acc bs) (hl : bs.length ≤ 65536) : Held (acc ++ s) (bs ++ s) := by
  rcases h with ⟨h1, rfl⟩ | ⟨_, h2, _⟩
  · by_cases hx : (bs ++ s).length ≤ 65536
    · exact .inl ⟨hx, rfl⟩
    · exact .inr ⟨by omega, by omega, Nat.le_refl _⟩
  · omega
theorem held_skip {acc bs : List UInt8} (s : List UInt8) (h : Held acc bs) (hl : ¬ bs.length ≤ 65536) : Held (acc ++ s) bs := by
  rcases h with ⟨h1, rfl⟩ | ⟨h1, h2, h3⟩
  · omega
  · exact .inr ⟨by rw [List.length_append]; omega, h2, by rw [List.length_append]; omega⟩
theorem held_le {acc bs : List UInt8} (h : Held acc bs) : bs.length ≤ acc.length := by
  rcases h with ⟨h1, rfl⟩ | ⟨_, _, h⟩
  · exact Nat.le_refl _
  · exact h
theorem held_long {acc bs : List UInt8} (h : Held acc bs) : 65536 < bs.length ↔ 65536 < acc.length := by
  rcases h with ⟨h1, rfl⟩ | ⟨h1, h2, _⟩
  · rfl
  · exact ⟨fun _ => h1, fun _ => h2⟩

set_option maxRecDepth 100000 in
set_option maxHeartbeats 6400000 in
theorem flat_any (text : ByteArray) (A : Option Addr) (c : Nat) (l : List RCut) (w : World) (ht : text.size ≤ 1000000) (hl : Fine l) (hr : RowOf RCut.cells 3 w w.heap.size A l) (hdp : Deep w w.heap.size l) :
    Calls Try.prog 21 #[.string text, .slice A l.length c] w fun e w' => RetFlat text l e w' ∧ Below w.heap.size w w' := by
  obtain ⟨i33, hi33, hz0, hz1, hz2⟩ := info_parts Try.info33
  have hll := hl.1
  have HL := Lib.hid hl
  have HR := Lib.hid hr
  have HD := Lib.hid hdp
  clear hl hr hdp
  go_enter Try.func21, Try.ntmps21
  go_wp2_with fail
  go_loopw [6, 16] (fun v i wr => ∃ (k : Nat) (acc : List Spl), k ≤ l.length ∧ i = .int .i64 k ∧ flatL text (l.take k) = .ok acc ∧ OwnS wr w.heap.size v acc ∧ Below w.heap.size w wr) (fun _ i _ => l.length - (intOf i).toNat)
  case atStart => exact ⟨0, [], Nat.zero_le _, rfl, rfl, Own.nil_, Below.refl _ _⟩
  case round =>
    obtain ⟨k, acc, hk, rfl, hfl, hown, hb⟩ := hrel
    have HFL := Lib.hid hfl
    have HO := Lib.hid hown
    have HB := Lib.hid hb
    have hbs := hb.size
    have hacc := flatL_len hfl
    have hacc2 : acc.length ≤ 1000 := by rw [hacc, List.length_take]; omega
    have HA := Lib.hid hacc2
    clear hfl hown hb hacc hacc2
    by_cases hlt : k < l.length
    · obtain ⟨x, hx⟩ := get_some hlt
      obtain ⟨xf, xt, xA, xc, ps⟩ := x
      obtain ⟨b, off, hA, hbl, h1, h2, h3⟩ := RCut.at_ (HR.out.below HB.out (Nat.le_refl _)) hx
      have hxm := List.mem_of_getElem? hx
      have hpl := (HL.out.2 _ hxm).1
      have hpt := (HL.out.2 _ hxm).2
      have hrow := HD.out _ hxm
      have HX := Lib.hid hx
      have HPT := Lib.hid hpt
      have HROW := Lib.hid hrow
      subst hA
      clear hx hxm hpt hrow
      dsimp only at h1 h2 h3 hpl
      obtain ⟨wo, rfl⟩ : ∃ wo : World, wo = wr := ⟨_, rfl⟩
      go_wp2_with fail
      go_loopw [23] (fun j wx => ∃ (q : Nat) (accb bs : List UInt8), q ≤ ps.length ∧ j = .int .i64 q ∧ joinP text (ps.take q) = some accb ∧ Held accb bs ∧ accb.length ≤ q * 1000000 ∧
          Lib.IsBuilder 84 5 (wo.heap.size + 1) (wo.heap.size + 1) (Lib.byteCells bs) wx ∧ Below (wo.heap.size + 1) (wo.alloc (.cells #[.int .i64 xf, .int .i64 xt, .slice xA ps.length xc] 65)) wx) (fun j _ => ps.length - (intOf j).toNat)
      case atStart =>
        refine ⟨0, [], [], Nat.zero_le _, rfl, rfl, .inl ⟨Nat.zero_le _, rfl⟩, Nat.le_refl 0, ?_, (Below.refl _ _).alloc (by simp) _⟩
        have := Lib.fresh_isBuilder 84 5 (wo.alloc (.cells #[.int .i64 xf, .int .i64 xt, .slice xA ps.length xc] 65))
        simp only [World.size_alloc] at this
        exact this
      case round =>
        obtain ⟨q, accb, bs, hq, rfl, hj, hhd, hal, hbu, hbx⟩ := hrel
        have hbxs := hbx.size
        simp only [World.size_alloc] at hbxs
        have hble := held_le hhd
        have HHD := Lib.hid hhd
        have HBU := Lib.hid hbu
        have HBX := Lib.hid hbx
        have HJ := Lib.hid hj
        have k1 : wr.cell? ⟨wo.heap.size, 0, none⟩ = some (.int .i64 xf) := (hbx.cell (p := ⟨wo.heap.size, 0, none⟩) (by simp)).trans (by rw [World.cell?_alloc_at _ _ _ _ rfl]; rfl)
        have k2 : wr.cell? ⟨wo.heap.size, 1, none⟩ = some (.int .i64 xt) := (hbx.cell (p := ⟨wo.heap.size, 1, none⟩) (by simp)).trans (by rw [World.cell?_alloc_at _ _ _ _ rfl]; rfl)
        clear hbx hj hhd hbu
        by_cases hqt : q < ps.length
        · obtain ⟨p, hp⟩ := get_some hqt
          obtain ⟨b', off', hA', hbl', p1, p2, p3, p4⟩ := Prt.at_ (((HROW.out.below HB.out (Nat.le_refl _)).below ((Below.refl _ _).alloc (Nat.le_refl _) (.cells #[.int .i64 xf, .int .i64 xt, .slice xA ps.length xc] 65)) hbs).below HBX.out (by omega)) hp
          have hps := HPT.out p (List.mem_of_getElem? hp)
          obtain ⟨pf, pt, px, pn⟩ := p
          dsimp only at p1 p2 p3 p4 hps hA'
          have HP := Lib.hid hp
          subst hA'
          clear HROW hp k1 k2
          cases hpn : pn
          · have hn2 : pn = false := hpn
            subst hpn
            by_cases hx0 : px = ⟨#[]⟩
            · have e0 : px = ⟨#[]⟩ := hx0
              subst hx0
              by_cases c1 : pf < 0
              · have HPV := Lib.hid (show partV text ⟨pf, pt, ⟨#[]⟩, false⟩ = none from by simp only [partV]; rw [if_neg (by simp), if_pos (.inl c1)])
                go_wp2
                go_ret2
                exact ⟨ret_flat_err (flatL_bad HX.out HFL.out (flatL_none (joinP_bad HP.out HPV.out))) (by decide), HB.out.trans ((Below.trans ((Below.refl _ _).alloc (Nat.le_refl _) _) ((HBX.out.mono (Nat.le_succ _)).trans (((Below.refl _ _).alloc (Nat.le_refl _) _).mono (by omega)))).mono hbs)⟩
              · by_cases c2 : pt < pf
                · have HPV := Lib.hid (show partV text ⟨pf, pt, ⟨#[]⟩, false⟩ = none from by simp only [partV]; rw [if_neg (by simp), if_pos (.inr (.inl c2))])
                  go_wp2
                  go_ret2
                  exact ⟨ret_flat_err (flatL_bad HX.out HFL.out (flatL_none (joinP_bad HP.out HPV.out))) (by decide), HB.out.trans ((Below.trans ((Below.refl _ _).alloc (Nat.le_refl _) _) ((HBX.out.mono (Nat.le_succ _)).trans (((Below.refl _ _).alloc (Nat.le_refl _) _).mono (by omega)))).mono hbs)⟩
                · by_cases c3 : (text.size : Int) < pt
                  · have HPV := Lib.hid (show partV text ⟨pf, pt, ⟨#[]⟩, false⟩ = none from by simp only [partV]; rw [if_neg (by simp), if_pos (.inr (.inr c3))])
                    go_wp2
                    go_ret2
                    exact ⟨ret_flat_err (flatL_bad HX.out HFL.out (flatL_none (joinP_bad HP.out HPV.out))) (by decide), HB.out.trans ((Below.trans ((Below.refl _ _).alloc (Nat.le_refl _) _) ((HBX.out.mono (Nat.le_succ _)).trans (((Below.refl _ _).alloc (Nat.le_refl _) _).mono (by omega)))).mono hbs)⟩
                  · have hs5 : partV text ⟨pf, pt, ⟨#[]⟩, false⟩ = some (text.extract pf.toNat pt.toNat) := by simp only [partV]; rw [if_neg (by simp), if_neg (by omega)]
                    have hss := part_size ht hps hs5
                    have hj9 := joinP_snoc HP.out HJ.out hs5
                    have hln : (accb ++ (text.extract pf.toNat pt.toNat).data.toList).length ≤ (q + 1) * 1000000 := by rw [List.length_append, size_list]; omega
                    have HJ9 := Lib.hid hj9
                    have HLN := Lib.hid hln
                    clear hs5 hj9 hln
                    by_cases hsm : bs.length ≤ 65536
                    · have hw1 := fun (W : World) (hWb : Below wr.heap.size wr W) => writeString_any (wo.heap.size + 1) (wo.heap.size + 1) (Lib.byteCells bs) (text.extract pf.toNat pt.toNat) W (isBuilder_below HBU.out hWb) (by rw [Lib.byteCells_length]; omega) (by have := hWb.size; omega)
                      have HW1 := Lib.hid hw1
                      have hn1 := fun (W : World) (hWb : Below wr.heap.size wr W) => Try.Builder_Len (wo.heap.size + 1) (wo.heap.size + 1) (Lib.byteCells bs) W (isBuilder_below HBU.out hWb)
                      have hn2 : ∀ (W : World) (hWb : Below wr.heap.size wr W), Calls Try.prog 37 #[.pointer (some ⟨wo.heap.size + 1, 0, none⟩)] W fun e w' => e = .returned (.int .i64 bs.length) ∧ W = w' := fun W hWb => (hn1 W hWb).mono fun e w' ⟨h, h'⟩ => ⟨by rw [h, Lib.byteCells_length], h'.symm⟩
                      have HN1 := Lib.hid hn2
                      clear hw1 hn1 hn2
                      go_wp2_with (first | (go_at_call 37; refine (HN1.out _ ((Below.refl _ _).alloc (Nat.le_refl _) _)).mono ?_; rintro e w' ⟨rfl, rfl⟩) | (go_at_call 38; refine (HW1.out _ ((Below.refl _ _).alloc (Nat.le_refl _) _)).mono ?_; rintro e w4 ⟨rfl, hb4, hb5⟩))
                      go_roundw
                      case rel =>
                        refine ⟨q + 1, accb ++ (text.extract pf.toNat pt.toNat).data.toList, bs ++ (text.extract pf.toNat pt.toNat).data.toList, by omega, by go_num, HJ9.out, held_write _ HHD.out hsm, HLN.out, ?_, (HBX.out.alloc (by omega) _).trans hb5⟩
                        have := Or.inr (a := Lib.BuilderAt 84 5 (wo.heap.size + 1) (wo.heap.size + 1) (.pointer none) (Lib.byteCells bs ++ Lib.strCells (text.extract pf.toNat pt.toNat)) w4) hb4
                        rw [strCells_eq, ← Lib.byteCells_append] at this
                        exact this
                      case measure => simp [intOf]; omega
                    · have hn1 := fun (W : World) (hWb : Below wr.heap.size wr W) => Try.Builder_Len (wo.heap.size + 1) (wo.heap.size + 1) (Lib.byteCells bs) W (isBuilder_below HBU.out hWb)
                      have hn2 : ∀ (W : World) (hWb : Below wr.heap.size wr W), Calls Try.prog 37 #[.pointer (some ⟨wo.heap.size + 1, 0, none⟩)] W fun e w' => e = .returned (.int .i64 bs.length) ∧ W = w' := fun W hWb => (hn1 W hWb).mono fun e w' ⟨h, h'⟩ => ⟨by rw [h, Lib.byteCells_length], h'.symm⟩
                      have HN1 := Lib.hid hn2
                      clear hn1 hn2
                      go_wp2_with (first | (go_at_call 37; refine (HN1.out _ ((Below.refl _ _).alloc (Nat.le_refl _) _)).mono ?_; rintro e w' ⟨rfl, rfl⟩))
                      go_roundw
                      case rel => exact ⟨q + 1, accb ++ (text.extract pf.toNat pt.toNat).data.toList, bs, by omega, by go_num, HJ9.out, held_skip _ HHD.out hsm, HLN.out, isBuilder_below HBU.out ((Below.refl _ _).alloc (Nat.le_refl _) _), HBX.out.alloc (by omega) _⟩
                      case measure => simp [intOf]; omega
            · have e1 : ¬ px.toList = [] := fun h => hx0 ((empty_list _).1 h)
              have e2 : px.toList.isEmpty = false := by simpa using e1
              have hs5 : partV text ⟨pf, pt, px, false⟩ = some px := by simp only [partV]; rw [if_pos (.inr hx0)]
              have hss := part_size ht hps hs5
              have hj9 := joinP_snoc HP.out HJ.out hs5
              have hln : (accb ++ (px).data.toList).length ≤ (q + 1) * 1000000 := by rw [List.length_append, size_list]; omega
              have HJ9 := Lib.hid hj9
              have HLN := Lib.hid hln
              clear hs5 hj9 hln
              by_cases hsm : bs.length ≤ 65536
              · have hw1 := fun (W : World) (hWb : Below wr.heap.size wr W) => writeString_any (wo.heap.size + 1) (wo.heap.size + 1) (Lib.byteCells bs) (px) W (isBuilder_below HBU.out hWb) (by rw [Lib.byteCells_length]; omega) (by have := hWb.size; omega)
                have HW1 := Lib.hid hw1
                have hn1 := fun (W : World) (hWb : Below wr.heap.size wr W) => Try.Builder_Len (wo.heap.size + 1) (wo.heap.size + 1) (Lib.byteCells bs) W (isBuilder_below HBU.out hWb)
                have hn2 : ∀ (W : World) (hWb : Below wr.heap.size wr W), Calls Try.prog 37 #[.pointer (some ⟨wo.heap.size + 1, 0, none⟩)] W fun e w' => e = .returned (.int .i64 bs.length) ∧ W = w' := fun W hWb => (hn1 W hWb).mono fun e w' ⟨h, h'⟩ => ⟨by rw [h, Lib.byteCells_length], h'.symm⟩
                have HN1 := Lib.hid hn2
                clear hw1 hn1 hn2
                go_wp2_with (first | (go_at_call 37; refine (HN1.out _ ((Below.refl _ _).alloc (Nat.le_refl _) _)).mono ?_; rintro e w' ⟨rfl, rfl⟩) | (go_at_call 38; refine (HW1.out _ ((Below.refl _ _).alloc (Nat.le_refl _) _)).mono ?_; rintro e w4 ⟨rfl, hb4, hb5⟩))
                go_roundw
                case rel =>
                  refine ⟨q + 1, accb ++ (px).data.toList, bs ++ (px).data.toList, by omega, by go_num, HJ9.out, held_write _ HHD.out hsm, HLN.out, ?_, (HBX.out.alloc (by omega) _).trans hb5⟩
                  have := Or.inr (a := Lib.BuilderAt 84 5 (wo.heap.size + 1) (wo.heap.size + 1) (.pointer none) (Lib.byteCells bs ++ Lib.strCells (px)) w4) hb4
                  rw [strCells_eq, ← Lib.byteCells_append] at this
                  exact this
                case measure => simp [intOf]; omega
              · have hn1 := fun (W : World) (hWb : Below wr.heap.size wr W) => Try.Builder_Len (wo.heap.size + 1) (wo.heap.size + 1) (Lib.byteCells bs) W (isBuilder_below HBU.out hWb)
                have hn2 : ∀ (W : World) (hWb : Below wr.heap.size wr W), Calls Try.prog 37 #[.pointer (some ⟨wo.heap.size + 1, 0, none⟩)] W fun e w' => e = .returned (.int .i64 bs.length) ∧ W = w' := fun W hWb => (hn1 W hWb).mono fun e w' ⟨h, h'⟩ => ⟨by rw [h, Lib.byteCells_length], h'.symm⟩
                have HN1 := Lib.hid hn2
                clear hn1 hn2
                go_wp2_with (first | (go_at_call 37; refine (HN1.out _ ((Below.refl _ _).alloc (Nat.le_refl _) _)).mono ?_; rintro e w' ⟨rfl, rfl⟩))
                go_roundw
                case rel => exact ⟨q + 1, accb ++ (px).data.toList, bs, by omega, by go_num, HJ9.out, held_skip _ HHD.out hsm, HLN.out, isBuilder_below HBU.out ((Below.refl _ _).alloc (Nat.le_refl _) _), HBX.out.alloc (by omega) _⟩
                case measure => simp [intOf]; omega
          · subst hpn
            have hs5 : partV text ⟨pf, pt, px, true⟩ = some px := by simp [partV]
            have hss := part_size ht hps hs5
            have hj9 := joinP_snoc HP.out HJ.out hs5
            have hln : (accb ++ (px).data.toList).length ≤ (q + 1) * 1000000 := by rw [List.length_append, size_list]; omega
            have HJ9 := Lib.hid hj9
            have HLN := Lib.hid hln
            clear hs5 hj9 hln
            by_cases hsm : bs.length ≤ 65536
            · have hw1 := fun (W : World) (hWb : Below wr.heap.size wr W) => writeString_any (wo.heap.size + 1) (wo.heap.size + 1) (Lib.byteCells bs) (px) W (isBuilder_below HBU.out hWb) (by rw [Lib.byteCells_length]; omega) (by have := hWb.size; omega)
              have HW1 := Lib.hid hw1
              have hn1 := fun (W : World) (hWb : Below wr.heap.size wr W) => Try.Builder_Len (wo.heap.size + 1) (wo.heap.size + 1) (Lib.byteCells bs) W (isBuilder_below HBU.out hWb)
              have hn2 : ∀ (W : World) (hWb : Below wr.heap.size wr W), Calls Try.prog 37 #[.pointer (some ⟨wo.heap.size + 1, 0, none⟩)] W fun e w' => e = .returned (.int .i64 bs.length) ∧ W = w' := fun W hWb => (hn1 W hWb).mono fun e w' ⟨h, h'⟩ => ⟨by rw [h, Lib.byteCells_length], h'.symm⟩
              have HN1 := Lib.hid hn2
              clear hw1 hn1 hn2
              go_wp2_with (first | (go_at_call 37; refine (HN1.out _ ((Below.refl _ _).alloc (Nat.le_refl _) _)).mono ?_; rintro e w' ⟨rfl, rfl⟩) | (go_at_call 38; refine (HW1.out _ ((Below.refl _ _).alloc (Nat.le_refl _) _)).mono ?_; rintro e w4 ⟨rfl, hb4, hb5⟩))
              go_roundw
              case rel =>
                refine ⟨q + 1, accb ++ (px).data.toList, bs ++ (px).data.toList, by omega, by go_num, HJ9.out, held_write _ HHD.out hsm, HLN.out, ?_, (HBX.out.alloc (by omega) _).trans hb5⟩
                have := Or.inr (a := Lib.BuilderAt 84 5 (wo.heap.size + 1) (wo.heap.size + 1) (.pointer none) (Lib.byteCells bs ++ Lib.strCells (px)) w4) hb4
                rw [strCells_eq, ← Lib.byteCells_append] at this
                exact this
              case measure => simp [intOf]; omega
            · have hn1 := fun (W : World) (hWb : Below wr.heap.size wr W) => Try.Builder_Len (wo.heap.size + 1) (wo.heap.size + 1) (Lib.byteCells bs) W (isBuilder_below HBU.out hWb)
              have hn2 : ∀ (W : World) (hWb : Below wr.heap.size wr W), Calls Try.prog 37 #[.pointer (some ⟨wo.heap.size + 1, 0, none⟩)] W fun e w' => e = .returned (.int .i64 bs.length) ∧ W = w' := fun W hWb => (hn1 W hWb).mono fun e w' ⟨h, h'⟩ => ⟨by rw [h, Lib.byteCells_length], h'.symm⟩
              have HN1 := Lib.hid hn2
              clear hn1 hn2
              go_wp2_with (first | (go_at_call 37; refine (HN1.out _ ((Below.refl _ _).alloc (Nat.le_refl _) _)).mono ?_; rintro e w' ⟨rfl, rfl⟩))
              go_roundw
              case rel => exact ⟨q + 1, accb ++ (px).data.toList, bs, by omega, by go_num, HJ9.out, held_skip _ HHD.out hsm, HLN.out, isBuilder_below HBU.out ((Below.refl _ _).alloc (Nat.le_refl _) _), HBX.out.alloc (by omega) _⟩
              case measure => simp [intOf]; omega
        · obtain rfl : q = ps.length := by omega
          have hj2 := HJ.out
          rw [List.take_length] at hj2
          have HJ2 := Lib.hid hj2
          clear hj2 HJ HROW
          have hn2 : Calls Try.prog 37 #[.pointer (some ⟨wo.heap.size + 1, 0, none⟩)] wr fun e w' => e = .returned (.int .i64 bs.length) ∧ wr = w' := (Try.Builder_Len (wo.heap.size + 1) (wo.heap.size + 1) (Lib.byteCells bs) wr HBU.out).mono fun e w' ⟨h, h'⟩ => ⟨by rw [h, Lib.byteCells_length], h'.symm⟩
          have HN1 := Lib.hid hn2
          clear hn2
          have hbo : Below wo.heap.size wo wr := Below.trans ((Below.refl _ _).alloc (Nat.le_refl _) (.cells #[.int .i64 xf, .int .i64 xt, .slice xA ps.length xc] 65)) (HBX.out.mono (Nat.le_succ _))
          have HBO := Lib.hid hbo
          have HBW := Lib.hid (HB.out.trans (hbo.mono hbs))
          clear hbo
          by_cases hlong : 65536 < bs.length
          · go_wp2_with (first | (go_at_call 37; refine HN1.out.mono ?_; rintro e w' ⟨rfl, rfl⟩))
            go_ret2
            exact ⟨ret_flat_err (flatL_bad HX.out HFL.out (flatL_long HJ2.out ((held_long HHD.out).1 hlong))) (by decide), HBW.out⟩
          · have hbacc : bs = accb := by
              rcases HHD.out with ⟨_, h⟩ | ⟨_, h, _⟩
              · exact h
              · omega
            subst hbacc
            have hb1 : acc.length + 1 ≤ maxLen := by have := HA.out; unfold maxLen; omega
            have hb2 : (acc.length + 1) * 32 ≤ 140737488355328 := by have := HA.out; omega
            have HB1 := Lib.hid hb1
            have HB2 := Lib.hid hb2
            have hou := Own.below HO.out HBO.out
            have holt : ∀ u, Value.ownBlock u6 = some u → u < wo.heap.size := fun u hu => (Own.lt HO.out u hu).2
            have HOU := Lib.hid hou
            have HLT := Lib.hid holt
            have hst := Try.Builder_String_any (wo.heap.size + 1) (wo.heap.size + 1) bs wr.drew (isBuilder_below HBU.out (Below.drew (Below.refl _ _))) (by simp; omega)
            have HST := Lib.hid hst
            clear hb1 hb2 hou holt hst h1 h2 h3
            go_wp2_with (first | (go_at_call 37; refine HN1.out.mono ?_; rintro e w' ⟨rfl, rfl⟩))
            go_region_held3 (fun w' => w'.cell? ⟨wo.heap.size, 0, none⟩ = some (.int .i64 xf) ∧ w'.cell? ⟨wo.heap.size, 1, none⟩ = some (.int .i64 xt))
              (first
                | go_keep
                | (go_split_ands
                   refine ⟨?_, ?_⟩
                   · (rw [hbS.cell (p := ⟨wo.heap.size, 0, none⟩) (by simp)]; assumption)
                   · (rw [hbS.cell (p := ⟨wo.heap.size, 1, none⟩) (by simp)]; assumption))
                | (go_split_ands
                   refine ⟨?_, ?_⟩
                   · (rw [hgrow.cell_far _ (by simp; omega) (by intro e; have := HLT.out _ e.symm; simp at this)]; assumption)
                   · (rw [hgrow.cell_far _ (by simp; omega) (by intro e; have := HLT.out _ e.symm; simp at this)]; assumption)))
              (first
                | (go_at_call 39; refine HST.out.mono ?_; rintro e wS ⟨rfl, hbS⟩; have hsS : wr.heap.size ≤ wS.heap.size := hbS.size; have HOS := Lib.hid (Own.upto (Own.drew HOU.out) hbS (fun u hu => Nat.lt_succ_of_lt (HLT.out u hu))))
                | (refine step_append_rec (cs := Spl.cells) (by rfl) _ _ _ (by rfl) 33 i33 _ 32 Try.underlying22 hi33 hz0 hz1 hz2 rfl (by omega) Spl.len Spl.one _ w.heap.size wS.heap.size _ acc ⟨xf, xt, ⟨bs.toArray⟩⟩ _ (0, 0) (by rfl) (by rfl) (by rfl) (by exact new_at (w := wS) rfl) (Own.alloc HOS.out _) HB1.out HB2.out (by simp; omega) (wS.heap.size + 1) (by simp) ?_; intro gg cap w1 hown1 hgrow hat hlt))
            go_wp2
            go_roundw
            case rel =>
              have hlo : ¬ 65536 < bs.length := hlong
              exact ⟨k + 1, acc ++ [⟨xf, xt, ⟨bs.toArray⟩⟩], by omega, by go_num, flatL_snoc HX.out HFL.out HJ2.out hlo, hown1, below_grown ((HBW.out.trans ((Below.drew (Below.refl _ _)).trans (hbS.mono (by omega)))).alloc (by have := HBW.out.size; omega) _) (Own.alloc HOS.out _) (by simp; omega) hgrow⟩
            case measure => simp [intOf]; omega
    · obtain rfl : k = l.length := by omega
      have hfl := HFL.out
      rw [List.take_length] at hfl
      obtain ⟨A', c', hv, hrow⟩ := Own.row Spl.len HO.out
      have hfits := check_any text.size A' c' acc wr (by have := HA.out; omega) hrow
      have HF := Lib.hid hfl
      have HRW := Lib.hid hrow
      subst hv
      clear hfl hrow
      cases hfv : fitsV text.size acc
      · rw [check_fits hfv] at hfits
        have HC := Lib.hid hfits
        have HFV := Lib.hid hfv
        clear hfits hfv
        go_wp2_with (go_at_call 18; refine HC.out.mono ?_; rintro e w' ⟨rfl, hb3⟩)
        go_ret2
        exact ⟨ret_flat_unfit HF.out HFV.out, HB.out.trans (hb3.mono hbs)⟩
      · rw [check_fits2 hfv] at hfits
        have HC := Lib.hid hfits
        have HFV := Lib.hid hfv
        clear hfits hfv
        go_wp2_with (go_at_call 18; refine HC.out.mono ?_; rintro e w' ⟨rfl, hb3⟩)
        go_ret2
        exact ⟨ret_flat_ok HF.out HFV.out (RowOf.after HRW.out (Nat.le_refl _) hb3), HB.out.trans (hb3.mono hbs)⟩
end Go.Proofs.Ytfflfbnnohlipaa
