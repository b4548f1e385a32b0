/- A part of what the claim leans on. -/
import Derived.Test.YtacdfjlncfidgaaGreatDoorRows
import Derived.WalkKit
import Derived.Outline
import Derived.Lib.Hide
import Derived.WalkLawsBesides
import Derived.WalkSpells
import Derived.OwnWalk
import Derived.Deep.QuietTactic
import Derived.BigQuiet
import Derived.Test.YtacdfjlncfidgaaGreatDoorQShelf
import Derived.Laws.BytesString
import Derived.Laws.Bits64b
namespace Go.Proofs.YtacdfjlncfidgaaGreatDoor
open Go.RowKit
set_option linter.unusedVariables false
set_option linter.unusedSimpArgs false
set_option maxHeartbeats 1600000
set_option maxRecDepth 1000000
theorem ret_int {k : IntKind} {a b : Int} (h : a = b) : Ending.returned (.int k a) = .returned (.int k b) := by rw [h]
theorem ret_bool {a b : Bool} (h : a = b) : Ending.returned (.bool a) = .returned (.bool b) := by rw [h]
def isDig (c : UInt8) : Bool := decide (48 ≤ c.toNat) && decide (c.toNat ≤ 57)
def digN (l : List UInt8) : Nat := (l.takeWhile isDig).length
theorem digN_le (l : List UInt8) : digN l ≤ l.length := by
 unfold digN
 exact (List.takeWhile_sublist isDig).length_le
theorem digN_at {l : List UInt8} {k : Nat} (hk : k ≤ l.length) (h : ∀ c ∈ l.take k, isDig c = true) (hs : k = l.length ∨ ∃ c, l[k]? = some c ∧ isDig c = false) : digN l = k := by
 unfold digN
 induction l generalizing k with
 | nil => simp at hk ⊢; omega
 | cons x l ih =>
  cases k with
  | zero =>
   rcases hs with hs | ⟨c, hc, hd⟩
   · simp at hs
   · simp at hc; subst hc; simp [hd]
  | succ k =>
   have hx : isDig x = true := h x (by simp)
   simp only [List.takeWhile_cons, hx, if_true, List.length_cons]
   rw [ih (k := k) (by simp at hk; omega) (fun c hc => h c (by simp [hc])) (by
    rcases hs with hs | ⟨c, hc, hd⟩
    · left; simp at hs; omega
    · right; exact ⟨c, by simpa using hc, hd⟩)]
theorem digits_any (s : ByteArray) (w : World) (hs : s.size ≤ 9223372036854775807) :
  Calls Tryz.prog 191 #[.string s] w fun e w' => e = .returned (.int .i64 (digN s.data.toList)) ∧ w = w' := by
 go_enter Tryz.func191, Tryz.ntmps191
 go_wp2_with fail
 go_step3
 go_wp2_with fail
 go_step3
 go_wp2_with fail
 go_loop [3, 4] (fun n _ => ∃ k : Nat, k ≤ s.size ∧ n = .int .i64 k ∧ ∀ c ∈ s.data.toList.take k, isDig c = true) (fun n _ => s.size - (intOf n).toNat)
 case atStart => exact ⟨0, Nat.zero_le _, rfl, by simp⟩
 case round =>
  obtain ⟨k, hk, rfl, hd⟩ := hrel
  have HD := Lib.hid hd
  clear hd
  have hsz : s.data.toList.length = s.size := rfl
  by_cases hlt : k < s.size
  · have hget : s.data.toList[k]? = some s[k] := by
     rw [List.getElem?_eq_getElem (by rw [hsz]; exact hlt)]; rfl
    have HG := Lib.hid hget
    have HZ := Lib.hid hsz
    clear hget hsz
    obtain ⟨c, hc⟩ : ∃ c, s[k] = c := ⟨_, rfl⟩
    have HGc := Lib.hid (HG.out.trans (congrArg some hc))
    by_cases hdig : isDig c = true
    · have h1 : ¬ (c.toNat : Int) < 48 := by simp [isDig] at hdig; omega
      have h2 : ¬ (57 : Int) < (c.toNat : Int) := by simp [isDig] at hdig; omega
      have HDG := Lib.hid hdig
      clear hdig
      go_wp2_with fail
      go_round
      case rel =>
       refine ⟨k + 1, by omega, by go_num, fun x hx => ?_⟩
       rw [List.take_add_one, HGc.out] at hx
       simp at hx
       rcases hx with hx | hx
       · exact HD.out x hx
       · rw [hx]; exact HDG.out
      case measure => simp [intOf]; omega
    · have hE := Lib.hid (digN_at (k := k) (l := s.data.toList) (by rw [HZ.out]; omega) HD.out (.inr ⟨c, HGc.out, by simpa using hdig⟩))
      have HE := Lib.hid hE
      clear hE
      by_cases h1 : (c.toNat : Int) < 48
      · clear hdig
        go_wp2_with fail
        first | go_ret | (rw [Exit.noGoto_ret]; go_ret)
        exact ⟨ret_int (by rw [HE.out]), rfl⟩
      · have h2 : (57 : Int) < (c.toNat : Int) := by simp [isDig] at hdig; omega
        clear hdig
        go_wp2_with fail
        first | go_ret | (rw [Exit.noGoto_ret]; go_ret)
        exact ⟨ret_int (by rw [HE.out]), rfl⟩
  · obtain rfl : k = s.size := by omega
    have hE := digN_at (k := s.size) (l := s.data.toList) (by rw [hsz]; omega) HD.out (.inl hsz.symm)
    have HE := Lib.hid hE
    clear hE hsz
    go_wp2_with fail
    first | go_ret | (rw [Exit.noGoto_ret]; go_ret)
    exact ⟨ret_int (by rw [HE.out]), rfl⟩
structure Knows (w : World) : Prop where
 maxlen : ∃ m, w.cell? ⟨2, 0, none⟩ = some (.int .i64 m)
 width : w.cell? ⟨9, 0, none⟩ = some (.int .u64 52)
 ways : w.cell? ⟨8, 0, none⟩ = some (.bool true)
 pows : ∃ pb po c, w.cell? ⟨12, 0, none⟩ = some (.slice (some ⟨pb, po, none⟩) 23 c) ∧ w.cell? ⟨pb, po + 1, none⟩ = some (.float .f64 4621819117588971520)
theorem bool2_false (w : World) : Calls Tryz.prog 221 #[.bool false] w fun e w' => e = .returned (.int .u64 0) ∧ w = w' := by
 go_enter Tryz.func221, Tryz.ntmps221
 go_wp2_with fail
 go_ret
 exact ⟨rfl, rfl⟩
def natV (l : List UInt8) : Bool := !l.isEmpty && decide (digN l = l.length) && (decide (l.length = 1) || decide (l[0]? ≠ some 48))
theorem natural_any (s : ByteArray) (w : World) (hs : s.size ≤ 9223372036854775807) :
  Calls Tryz.prog 182 #[.string s] w fun e w' => e = .returned (.bool (natV s.data.toList)) ∧ w = w' := by
 have hsz : s.data.toList.length = s.size := rfl
 by_cases h0 : s.size = 0
 · have he : s.data.toList.isEmpty = true := by
    rw [List.isEmpty_iff]; exact List.eq_nil_of_length_eq_zero (by rw [hsz]; exact h0)
   have he2 : s.data.toList = [] := by simpa using he
   have HV := Lib.hid (show natV s.data.toList = false by simp [natV, he])
   have t1 : s.toList = [] := by rw [ByteArray.toList_eq]; exact he2
   have t2 : (!s.toList.isEmpty) = false := by rw [t1]; rfl
   clear he he2
   go_enter Tryz.func182, Tryz.ntmps182
   go_wp2_with fail
   go_ret
   exact ⟨ret_bool HV.out.symm, rfl⟩
 · have he : s.data.toList.isEmpty = false := by
    cases hc : s.data.toList.isEmpty
    · rfl
    · rw [List.isEmpty_iff] at hc; rw [hc] at hsz; simp at hsz; omega
   have hpos : 0 < s.size := by omega
   have hget : s.data.toList[0]? = some s[0] := by rw [List.getElem?_eq_getElem (by rw [hsz]; exact hpos)]; rfl
   have HV := Lib.hid (show natV s.data.toList = (decide (digN s.data.toList = s.size) && (decide (s.size = 1) || decide (s[0] ≠ 48))) by simp [natV, he, hsz, hget])
   have HD := Lib.hid (digits_any s w hs)
   have hdl := digN_le s.data.toList
   rw [hsz] at hdl
   have t1 : ¬ s.toList = [] := by rw [ByteArray.toList_eq]; intro hc; rw [hc] at hsz; simp at hsz; omega
   have t2 : (!s.toList.isEmpty) = true := by simpa using t1
   obtain ⟨c, hc⟩ : ∃ c, s[0] = c := ⟨_, rfl⟩
   rw [hc] at HV
   generalize natV s.data.toList = V at *
   generalize digN s.data.toList = d at *
   clear hget hsz h0 he
   by_cases h1 : d = s.size
   · have h1' : (d : Int) = (s.size : Int) := by omega
     by_cases h2 : s.size = 1
     · have HW := Lib.hid (show V = true by rw [HV.out]; simp [h1, h2])
       have h2' : (s.size : Int) = 1 := by omega
       subst h1
       have H2 := Lib.hid h2
       clear h2 h1'
       go_enter Tryz.func182, Tryz.ntmps182
       go_wp2_with (go_at_call 191; refine HD.out.mono ?_; rintro e w' ⟨rfl, rfl⟩)
       go_ret
       exact ⟨ret_bool HW.out.symm, rfl⟩
     · have h2' : ¬ (s.size : Int) = 1 := by omega
       by_cases h3 : c = 48
       · have HW := Lib.hid (show V = false by rw [HV.out]; simp [h1, h2, h3])
         subst h1
         have hd2 : ((s.size : Int) == 1) = false := by simpa using h2'
         have hn : ((c.toNat : Int) != 48) = false := by rw [h3]; rfl
         have hn2 : (c.toNat : Int) = 48 := by rw [h3]; rfl
         clear h2 h1' h3
         go_enter Tryz.func182, Tryz.ntmps182
         go_wp2_with (go_at_call 191; refine HD.out.mono ?_; rintro e w' ⟨rfl, rfl⟩)
         go_ret
         exact ⟨ret_bool HW.out.symm, rfl⟩
       · have HW := Lib.hid (show V = true by rw [HV.out]; simp [h1, h3])
         subst h1
         have hd2 : ((s.size : Int) == 1) = false := by simpa using h2'
         have hc48 : c.toNat ≠ 48 := fun e => h3 (UInt8.toNat_inj.1 (by rw [e]; rfl))
         have hn : ((c.toNat : Int) != 48) = true := by simp; omega
         have hn2 : ¬ (c.toNat : Int) = 48 := by omega
         clear h2 h1' h3
         go_enter Tryz.func182, Tryz.ntmps182
         go_wp2_with (go_at_call 191; refine HD.out.mono ?_; rintro e w' ⟨rfl, rfl⟩)
         go_ret
         exact ⟨ret_bool HW.out.symm, rfl⟩
   · have HW := Lib.hid (show V = false by rw [HV.out]; simp [h1])
     have h1' : ¬ (d : Int) = (s.size : Int) := by omega
     have hdd : decide (d = s.size) = false := by simpa using h1
     clear h1
     go_enter Tryz.func182, Tryz.ntmps182
     go_wp2_with (go_at_call 191; refine HD.out.mono ?_; rintro e w' ⟨rfl, rfl⟩)
     go_ret
     exact ⟨ret_bool HW.out.symm, rfl⟩
def Bits (g : Nat) (i : Nat) (S : List UInt8) (X : World) : Prop :=
 ∃ arr, X.heap[g]? = some (.cells arr 276 (0, 0)) ∧ arr.size = 65 ∧ ∀ j c, S[j]? = some c → arr[i + j]? = some (.int .u8 c.toNat)
theorem Bits.set {g i : Nat} {S : List UInt8} {X : World} (h : Bits g i S X) (h0 : 0 < i) (hi : i ≤ 65) (c : UInt8) : Bits g (i - 1) (c :: S) (X.setCell ⟨g, i - 1, none⟩ (.int .u8 c.toNat)) := by
 obtain ⟨arr, ha, hs, hc⟩ := h
 refine ⟨arr.setIfInBounds (i - 1) (.int .u8 c.toNat), ?_, by simpa using hs, fun j d hj => ?_⟩
 · simp only [World.setCell, Array.getElem?_modify]
   simp [ha]
 · cases j with
   | zero =>
    simp at hj
    subst hj
    rw [Nat.add_zero, Array.getElem?_setIfInBounds_self_of_lt (by omega)]
   | succ j =>
    simp at hj
    rw [Array.getElem?_setIfInBounds_ne (by omega), show i - 1 + (j + 1) = i + j by omega]
    exact hc j d hj
theorem Bits.cell {g i : Nat} {S : List UInt8} {X : World} (h : Bits g i S X) (j : Nat) (c : UInt8) (hj : S[j]? = some c) : X.cell? ⟨g, i + j, none⟩ = some (.int .u8 c.toNat) := by
 obtain ⟨arr, ha, hs, hc⟩ := h
 simp only [World.cell?, ha]
 simpa using hc j c hj
def nanB (b : Nat) : Bool := FloatKind.f64.format.order b b != some .eq
theorem Below.at_ {w w' : World} (hb : Below w.heap.size w w') {b o : Nat} {v : Value} (h : w.cell? ⟨b, o, none⟩ = some v) : w'.cell? ⟨b, o, none⟩ = some v :=
 (hb.cell (p := ⟨b, o, none⟩) (World.block_lt_of_cell? _ _ h)).trans h
end Go.Proofs.YtacdfjlncfidgaaGreatDoor
