/- num.natural; num.Int and num.Float at the texts of the law's small thing. -/
import Derived.Test.YtoonneminimbfaaGreatDoorFloat15
namespace Go.Proofs.YtoonneminimbfaaGreatDoor
open Go.RowKit
set_option linter.unusedVariables false
set_option linter.unusedSimpArgs false

def natV (l : List UInt8) : Bool := !l.isEmpty && decide (digN l = l.length) && (decide (l.length = 1) || decide (l[0]? ≠ some 48))

set_option maxHeartbeats 1600000 in
theorem natural_any (s : ByteArray) (w : World) (hs : s.size ≤ 9223372036854775807) :
    Calls Tryz.prog 51 #[.string s] w fun e w' => e = .returned (.bool (natV s.data.toList)) ∧ w = w' := by
  have hsz : s.data.toList.length = s.size := rfl
  by_cases h0 : s.size = 0
  · have he : s.data.toList.isEmpty = true := by
      rw [List.isEmpty_iff]; exact List.eq_nil_of_length_eq_zero (by rw [hsz]; exact h0)
    have he2 : s.data.toList = [] := by simpa using he
    have HV := Lib.hid (show natV s.data.toList = false by simp [natV, he])
    have t1 : s.toList = [] := by rw [ByteArray.toList_eq]; exact he2
    have t2 : (!s.toList.isEmpty) = false := by rw [t1]; rfl
    clear he he2
    go_enter Tryz.func51, Tryz.ntmps51
    go_wp2_with fail
    go_ret
    exact ⟨ret_bool HV.out.symm, rfl⟩
  · have he : s.data.toList.isEmpty = false := by
      cases hc : s.data.toList.isEmpty
      · rfl
      · rw [List.isEmpty_iff] at hc; rw [hc] at hsz; simp at hsz; omega
    have hpos : 0 < s.size := by omega
    have hget : s.data.toList[0]? = some s[0] := by rw [List.getElem?_eq_getElem (by rw [hsz]; exact hpos)]; rfl
    have HV := Lib.hid (show natV s.data.toList = (decide (digN s.data.toList = s.size) && (decide (s.size = 1) || decide (s[0] ≠ 48))) by simp [natV, he, hsz, hget])
    have HD := Lib.hid (digits_any s w hs)
    have hdl := digN_le s.data.toList
    rw [hsz] at hdl
    have t1 : ¬ s.toList = [] := by rw [ByteArray.toList_eq]; intro hc; rw [hc] at hsz; simp at hsz; omega
    have t2 : (!s.toList.isEmpty) = true := by simpa using t1
    obtain ⟨c, hc⟩ : ∃ c, s[0] = c := ⟨_, rfl⟩
    rw [hc] at HV
    generalize natV s.data.toList = V at *
    generalize digN s.data.toList = d at *
    clear hget hsz h0 he
    by_cases h1 : d = s.size
    · have h1' : (d : Int) = (s.size : Int) := by omega
      by_cases h2 : s.size = 1
      · have HW := Lib.hid (show V = true by rw [HV.out]; simp [h1, h2])
        have h2' : (s.size : Int) = 1 := by omega
        subst h1
        have H2 := Lib.hid h2
        clear h2 h1'
        go_enter Tryz.func51, Tryz.ntmps51
        go_wp2_with (go_at_call 80; refine HD.out.mono ?_; rintro e w' ⟨rfl, rfl⟩)
        go_ret
        exact ⟨ret_bool HW.out.symm, rfl⟩
      · have h2' : ¬ (s.size : Int) = 1 := by omega
        by_cases h3 : c = 48
        · have HW := Lib.hid (show V = false by rw [HV.out]; simp [h1, h2, h3])
          subst h1
          have hd2 : ((s.size : Int) == 1) = false := by simpa using h2'
          have hn : ((c.toNat : Int) != 48) = false := by rw [h3]; rfl
          have hn2 : (c.toNat : Int) = 48 := by rw [h3]; rfl
          clear h2 h1' h3
          go_enter Tryz.func51, Tryz.ntmps51
          go_wp2_with (go_at_call 80; refine HD.out.mono ?_; rintro e w' ⟨rfl, rfl⟩)
          go_ret
          exact ⟨ret_bool HW.out.symm, rfl⟩
        · have HW := Lib.hid (show V = true by rw [HV.out]; simp [h1, h3])
          subst h1
          have hd2 : ((s.size : Int) == 1) = false := by simpa using h2'
          have hc48 : c.toNat ≠ 48 := fun e => h3 (UInt8.toNat_inj.1 (by rw [e]; rfl))
          have hn : ((c.toNat : Int) != 48) = true := by simp; omega
          have hn2 : ¬ (c.toNat : Int) = 48 := by omega
          clear h2 h1' h3
          go_enter Tryz.func51, Tryz.ntmps51
          go_wp2_with (go_at_call 80; refine HD.out.mono ?_; rintro e w' ⟨rfl, rfl⟩)
          go_ret
          exact ⟨ret_bool HW.out.symm, rfl⟩
    · have HW := Lib.hid (show V = false by rw [HV.out]; simp [h1])
      have h1' : ¬ (d : Int) = (s.size : Int) := by omega
      have hdd : decide (d = s.size) = false := by simpa using h1
      clear h1
      go_enter Tryz.func51, Tryz.ntmps51
      go_wp2_with (go_at_call 80; refine HD.out.mono ?_; rintro e w' ⟨rfl, rfl⟩)
      go_ret
      exact ⟨ret_bool HW.out.symm, rfl⟩
end Go.Proofs.YtoonneminimbfaaGreatDoor
