/- emendref07.Apply. -/
import Derived.Test.YtfflfbnnohlipaaSpell
import Derived.Test.YtfflfbnnohlipaaFlat
import Derived.Test.YtfflfbnnohlipaaApply
import Derived.Laws.BytesArg
namespace Go.Proofs.Ytfflfbnnohlipaa
open Go.RowKit
set_option linter.unusedVariables false
set_option linter.unusedSimpArgs false

/-- A byte, as it lies. -/
def byteC (u : UInt8) : List Value := [.int .u8 (u.toNat : Int)]
theorem byteC_len (u : UInt8) : (byteC u).length = 1 := rfl
theorem byteC_one (u : UInt8) : ∀ v ∈ byteC u, v.oneCell' = true := by simp [byteC, Value.oneCell']
theorem byteC_all (bs : List UInt8) : bs.flatMap byteC = bs.map fun b => Value.int .u8 (b.toNat : Int) := by
  induction bs with
  | nil => rfl
  | cons b bs ih => simp [byteC, List.flatMap_cons] at *; exact ih
abbrev OwnB (w : World) (B : Nat) (v : Value) (bs : List UInt8) : Prop := Own byteC 1 5 w B v bs
theorem ownB_raw {w : World} {B : Nat} {v : Value} {bs : List UInt8} (h : OwnB w B v bs) : w.ownsRow B 5 1 v bs.length (bs.map fun b => Value.int .u8 (b.toNat : Int)) := by rw [← byteC_all]; exact h
theorem ownB_str {w : World} {B : Nat} {v : Value} {bs : List UInt8} {s : ByteArray} (h : w.ownsRow B 5 1 v (bs.length + s.size) ((bs.map fun b => Value.int .u8 (b.toNat : Int)) ++ Lib.strCells s)) : OwnB w B v (bs ++ s.data.toList) := by
  unfold OwnB Own
  rw [byteC_all, List.map_append, List.length_append]
  exact h

theorem held_any {acc bs : List UInt8} (s : List UInt8) (h : Held acc bs) : Held (acc ++ s) (bs ++ s) := by
  rcases h with ⟨h1, rfl⟩ | ⟨h1, h2, h3⟩
  · by_cases hx : (bs ++ s).length ≤ 65536
    · exact .inl ⟨hx, rfl⟩
    · exact .inr ⟨by omega, by omega, Nat.le_refl _⟩
  · refine .inr ⟨?_, ?_, ?_⟩ <;> simp only [List.length_append] <;> omega

set_option maxRecDepth 100000 in
theorem run_bytes_string {w : World} {B : Nat} {A : Option Addr} {n cap : Nat} {bs : List UInt8} (h : OwnB w B (.slice A n cap) bs) (hn : n = bs.length) : (convert 59 9 (.slice A n cap)).run Try.prog w = .ok (.string ⟨bs.toArray⟩) w := by
  rcases h.2 with ⟨e, h0⟩ | ⟨g, cap', cur, e, _, hg, hc, _, hs, ht⟩
  · have hb : bs = [] := List.eq_nil_of_length_eq_zero h0
    subst hb
    injection e with e1 e2 e3
    subst e1
    exact run_convert_bytes_nil w 59 5 Try.underlying59 Try.underlying5 n cap 9 Try.underlying9
  · injection e with e1 e2 e3
    subst e1
    rw [hn]
    refine run_convert_bytes_back (P := Try.prog) w 59 9 5 ⟨g, 0, none⟩ cap bs Try.underlying59 Try.underlying5 Try.underlying9 fun j hj => ?_
    rw [Addr.add_lit, Nat.zero_add, cell_of_row _ _ _ _ _ _ hg, ← Array.getElem?_toList]
    have : (cur.toList.take (bs.length * 1))[j]? = cur.toList[j]? := by rw [List.getElem?_take, if_pos (by omega)]
    rw [← this, ht, byteC_all]
    simp [List.getElem?_eq_getElem hj]

set_option maxRecDepth 100000 in
set_option maxHeartbeats 6400000 in
theorem refApply_any (A : Option Addr) (c : Nat) (l : List Spl) (text : ByteArray) (w : World) (hl : l.length ≤ 1000000) (ht : text.size ≤ 1000000) (hx : ∀ x ∈ l, x.text.size ≤ 1000000) (hr : Row w w.heap.size A l) :
    Calls Try.prog 26 #[.string text, .slice A l.length c] w fun e w' => RetApply text l e ∧ Below w.heap.size w w' := by
  obtain ⟨i5, hi5, hz0, hz1, hz2⟩ := info_parts u8_info
  have HFT := Lib.hid (fits_any text.size A c l w hl hr)
  have HR := Lib.hid hr
  have HX := Lib.hid hx
  clear hr hx
  cases hf : fitsFrom text.size 0 l
  · have hv : fitsV text.size l = false := fitsV_no hf
    have HV := Lib.hid hv
    have HF := Lib.hid hf
    clear hv hf
    go_enter Try.func26, Try.ntmps26
    go_wp2_with (go_at_call 30; refine HFT.out.mono ?_; rw [HV.out]; rintro e w1 ⟨rfl, q, rfl⟩)
    go_ret2
    exact ⟨ret_unfit HF.out, below_draws (Below.refl _ _) _⟩
  · have hv : fitsV text.size l = true := fitsV_yes (by omega) hf
    have HV := Lib.hid hv
    have HF := Lib.hid hf
    clear hv hf
    go_enter Try.func26, Try.ntmps26
    go_wp2_with (go_at_call 30; refine HFT.out.mono ?_; rw [HV.out]; rintro e w1 ⟨rfl, q, rfl⟩)
    go_loopw [6, 7] (fun v i wr => ∃ (k : Nat) (bs : List UInt8), k ≤ text.size + 1 ∧ i = .int .i64 k ∧ Held (spell text l 0 k) bs ∧ bs.length ≤ 2000000 + k ∧ OwnB wr w.heap.size v bs ∧ Below w.heap.size w wr) (fun _ i _ => text.size + 1 - (intOf i).toNat)
    case atStart => exact ⟨0, [], Nat.zero_le _, rfl, .inl ⟨Nat.zero_le _, rfl⟩, by simp, Own.nil_, below_draws (Below.refl _ _) _⟩
    case round =>
      obtain ⟨k, bs, hk, rfl, hh, hbl, hown, hb⟩ := hrel
      obtain ⟨A1, c1, rfl, _⟩ := Own.row byteC_len hown
      have HH := Lib.hid hh
      have HO := Lib.hid hown
      have HB := Lib.hid hb
      clear hh hown hb
      by_cases hkt : k ≤ text.size
      · go_wp2_with fail
        go_loopw [6, 8] (fun v i wr => ∃ (q : Nat) (bs : List UInt8), q ≤ l.length ∧ i = .int .i64 q ∧ Held (spell text l 0 k ++ textsAt (l.take q) k) bs ∧ bs.length ≤ 2000000 + k ∧ OwnB wr w.heap.size v bs ∧ Below w.heap.size w wr) (fun _ i _ => l.length - (intOf i).toNat)
        case atStart => exact ⟨0, bs, Nat.zero_le _, rfl, by rw [show textsAt (l.take 0) k = [] by simp [textsAt], List.append_nil]; exact HH.out, hbl, HO.out, HB.out⟩
        case round =>
          clear HH HO HB hbl
          obtain ⟨q, bs, hq, rfl, hh, hbl, hown, hb⟩ := hrel
          obtain ⟨A1, c1, rfl, _⟩ := Own.row byteC_len hown
          have HH := Lib.hid hh
          have HO := Lib.hid hown
          have HB := Lib.hid hb
          have hbs := hb.size
          clear hh hown hb
          by_cases hgo : q < l.length ∧ bs.length ≤ 65536
          · obtain ⟨hlt, hle⟩ := hgo
            obtain ⟨x, hx⟩ := get_some hlt
            obtain ⟨b, off, rfl, hbl', h1, h2, h3⟩ := Spl.at_ (HR.out.below HB.out (Nat.le_refl _)) hx
            have hxs := HX.out x (List.mem_of_getElem? hx)
            have hsn := take_snoc hx
            have HS := Lib.hid hsn
            clear hx hsn
            by_cases hxk : x.frm = (k : Int)
            · have HXK := Lib.hid hxk
              have htx : textsAt (l.take (q + 1)) k = textsAt (l.take q) k ++ x.text.data.toList := by
                rw [HS.out, textsAt, List.flatMap_append]; simp [textsAt, HXK.out]
              have HT := Lib.hid htx
              clear htx
              have hlen : bs.length + x.text.size ≤ 2000000 := by omega
              have HL := Lib.hid hlen
              clear hlen
              go_wp2_with (at_builtin; go_must (refine Lib.wpList_append_own_string _ rfl _ _ 59 9 rfl w.heap.size 5 i5 Try.underlying59 Try.underlying9 hi5 hz0 hz1 hz2 (.slice A1 bs.length c1) bs.length (bs.map fun b => Value.int .u8 (b.toNat : Int)) (by rfl) (ownB_raw HO.out) x.text (by rfl) (by unfold maxLen; have := HL.out; omega) (by have := HL.out; omega) (by omega) ?_); intro v' w2 hown' hg _)
              go_roundw
              case rel => exact ⟨q + 1, bs ++ x.text.data.toList, by omega, by go_num, by rw [HT.out, ← List.append_assoc]; exact held_any _ HH.out, by rw [List.length_append, size_list]; have := HL.out; omega, ownB_str hown', below_grown HB.out HO.out (by omega) hg⟩
              case measure => simp [intOf]; omega
            · have htx : textsAt (l.take (q + 1)) k = textsAt (l.take q) k := by
                rw [HS.out, textsAt, List.flatMap_append]; simp [textsAt, hxk]
              have HT := Lib.hid htx
              clear htx
              go_wp2
              go_roundw
              case rel => exact ⟨q + 1, bs, by omega, by go_num, by rw [HT.out]; exact HH.out, hbl, HO.out, HB.out⟩
              case measure => simp [intOf]; omega
          · have hend : Held (spell text l 0 k ++ textsAt l k) bs := by
              have hsp : textsAt l k = textsAt (l.take q) k ++ textsAt (l.drop q) k := by
                rw [textsAt, textsAt, textsAt, ← List.flatMap_append, List.take_append_drop]
              by_cases hlt : q < l.length
              · rw [hsp, ← List.append_assoc]
                exact held_skip _ HH.out (by omega)
              · rw [hsp, show l.drop q = [] from List.drop_eq_nil_of_le (by omega)]
                simpa [textsAt] using HH.out
            have HE := Lib.hid hend
            have HKP := Lib.hid (kept_any A c l (k : Int) wr hl (HR.out.below HB.out (Nat.le_refl _) |>.more hbs))
            clear hend HH
            have hks : spell text l 0 (k + 1) = spell text l 0 k ++ textsAt l k ++ byteAt text l k := by
              rw [spell_back, spellAt, Nat.zero_add, List.append_assoc]
            have HKS := Lib.hid hks
            clear hks
            by_cases hkn : k < text.size
            · cases hkp : keptV l (k : Int)
              · have hba : byteAt text l k = [] := by simp [byteAt, hkp]
                have HBA := Lib.hid hba
                have HKV := Lib.hid hkp
                clear hba hkp
                by_cases hlt : q < l.length
                · have hbig : ¬ bs.length ≤ 65536 := by omega
                  clear hgo
                  go_wp2_with (go_at_call 32; refine HKP.out.mono ?_; rw [HKV.out]; rintro e w3 ⟨rfl, rfl⟩)
                  go_roundw
                  case rel => exact ⟨k + 1, bs, by omega, by go_num, by rw [HKS.out, HBA.out, List.append_nil]; exact HE.out, by omega, HO.out, HB.out⟩
                  case measure => simp [intOf]; omega
                · clear hgo
                  go_wp2_with (go_at_call 32; refine HKP.out.mono ?_; rw [HKV.out]; rintro e w3 ⟨rfl, rfl⟩)
                  go_roundw
                  case rel => exact ⟨k + 1, bs, by omega, by go_num, by rw [HKS.out, HBA.out, List.append_nil]; exact HE.out, by omega, HO.out, HB.out⟩
                  case measure => simp [intOf]; omega
              · have hba : byteAt text l k = [text[k]'hkn] := by
                  rw [byteAt, if_pos hkp]
                  have e : text.data.toList[k]? = some (text[k]'hkn) := by
                    rw [Array.getElem?_toList]
                    exact Array.getElem?_eq_getElem hkn
                  rw [drop_cons e]
                  rfl
                have HBA := Lib.hid hba
                have HKV := Lib.hid hkp
                have HLB := Lib.hid (show bs.length ≤ 2000000 + k ∧ k ≤ 1000000 from ⟨hbl, by omega⟩)
                clear hba hkp
                by_cases hlt : q < l.length
                · have hbig : ¬ bs.length ≤ 65536 := by omega
                  clear hgo
                  go_wp2_with (first | (go_at_call 32; refine HKP.out.mono ?_; rw [HKV.out]; rintro e w3 ⟨rfl, rfl⟩) | (at_builtin; go_must (refine wpList_append_rec (cs := byteC) rfl _ _ 59 rfl 5 i5 _ 1 Try.underlying59 hi5 hz0 hz1 hz2 rfl (by decide) byteC_len byteC_one wr w.heap.size _ (.slice A1 bs.length c1) bs (text[k]'hkn) _ rfl (by rfl) (by rfl) rfl HO.out (by unfold maxLen; have := HLB.out; omega) (by have := HLB.out; omega) (by omega) ?_); intro gg cap w' hown' hg hat hltg))
                  go_roundw
                  case rel => exact ⟨k + 1, bs ++ [text[k]'hkn], by omega, by go_num, by rw [HKS.out, HBA.out]; exact held_any _ HE.out, by rw [List.length_append]; have := HLB.out; simp; omega, hown', below_grown HB.out HO.out (by omega) hg⟩
                  case measure => simp [intOf]; omega
                · clear hgo
                  go_wp2_with (first | (go_at_call 32; refine HKP.out.mono ?_; rw [HKV.out]; rintro e w3 ⟨rfl, rfl⟩) | (at_builtin; go_must (refine wpList_append_rec (cs := byteC) rfl _ _ 59 rfl 5 i5 _ 1 Try.underlying59 hi5 hz0 hz1 hz2 rfl (by decide) byteC_len byteC_one wr w.heap.size _ (.slice A1 bs.length c1) bs (text[k]'hkn) _ rfl (by rfl) (by rfl) rfl HO.out (by unfold maxLen; have := HLB.out; omega) (by have := HLB.out; omega) (by omega) ?_); intro gg cap w' hown' hg hat hltg))
                  go_roundw
                  case rel => exact ⟨k + 1, bs ++ [text[k]'hkn], by omega, by go_num, by rw [HKS.out, HBA.out]; exact held_any _ HE.out, by rw [List.length_append]; have := HLB.out; simp; omega, hown', below_grown HB.out HO.out (by omega) hg⟩
                  case measure => simp [intOf]; omega
            · have hkk : k = text.size := by omega
              have hba : byteAt text l k = [] := by
                have : text.data.toList.drop k = [] := List.drop_eq_nil_of_le (by rw [size_list]; omega)
                simp [byteAt, this]
              have HBA := Lib.hid hba
              clear hba hkk
              by_cases hlt : q < l.length
              · have hbig : ¬ bs.length ≤ 65536 := by omega
                clear hgo
                go_wp2
                go_roundw
                case rel => exact ⟨k + 1, bs, by omega, by go_num, by rw [HKS.out, HBA.out, List.append_nil]; exact HE.out, by omega, HO.out, HB.out⟩
                case measure => simp [intOf]; omega
              · clear hgo
                go_wp2
                go_roundw
                case rel => exact ⟨k + 1, bs, by omega, by go_num, by rw [HKS.out, HBA.out, List.append_nil]; exact HE.out, by omega, HO.out, HB.out⟩
                case measure => simp [intOf]; omega
      · obtain rfl : k = text.size + 1 := by omega
        have hsp := spell_is text l 0 HF.out (Nat.zero_le _)
        rw [Nat.sub_zero] at hsp
        have hh := HH.out
        rw [← hsp] at hh
        have hjl := join_len (piecesFrom text 0 l)
        have HJ := Lib.hid hjl
        have HHH := Lib.hid hh
        clear hsp hh hjl HH
        by_cases hbig : bs.length ≤ 65536
        · have hbs : bs = joinV (piecesFrom text 0 l) ∧ totalV (piecesFrom text 0 l) ≤ 65536 := by
            rcases HHH.out with ⟨h1, h2⟩ | ⟨_, h2, _⟩
            · exact ⟨h2, by rw [← HJ.out]; exact h1⟩
            · omega
          have HBS := Lib.hid hbs
          have hcv := run_bytes_string HO.out rfl
          clear hbs
          go_wp2
          go_ret2
          exact ⟨by rw [HBS.out.1]; exact ret_fine HF.out HBS.out.2, HB.out⟩
        · have hbs : 65536 < totalV (piecesFrom text 0 l) := by
            rw [← HJ.out]; exact (held_long HHH.out).1 (by omega)
          have HBS := Lib.hid hbs
          clear hbs
          go_wp2
          go_ret2
          exact ⟨ret_long HF.out HBS.out, HB.out⟩
end Go.Proofs.Ytfflfbnnohlipaa
