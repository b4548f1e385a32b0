/- The document's Value. -/
import Derived.Test.YtclbmmiedihepaaGreatDoorRJ
import Derived.Test.YtclbmmiedihepaaGreatDoorRI
import Derived.Test.YtclbmmiedihepaaGreatDoorRG
import Derived.Lib.ValidLaws
namespace Go.Proofs.YtclbmmiedihepaaGreatDoor
open Go.RowKit
set_option linter.unusedVariables false
set_option linter.unusedSimpArgs false
theorem valid_ok : ∀ (f : Nat) (L : BL), L.length ≤ f → (Lib.validD L = true ↔ okV L) := by
 intro f
 induction f with
 | zero =>
  intro L h
  have : L = [] := List.eq_nil_of_length_eq_zero (by omega)
  subst this
  exact ⟨fun _ => okV_nil, fun _ => Lib.validD_nil⟩
 | succ f ih =>
  intro L h
  cases L with
  | nil => exact ⟨fun _ => okV_nil, fun _ => Lib.validD_nil⟩
  | cons c r =>
   by_cases hc : c.toNat < 128
   · rw [Lib.validD_cons c r hc, okV_cons hc]
     exact ih r (by simpa using h)
   · have hst := decode_step ⟨(c :: r).toArray⟩ c r rfl
     have hdg : Lib.decodeGo ⟨(c :: r).toArray⟩ = Lib.decodeL (c :: r) := by
      unfold Lib.decodeGo Lib.decodeL
      rw [if_neg (by show ¬ (c :: r).toArray.size = 0; simp)]
     rw [hdg] at hst
     have hd2 := Lib.decodeL_N (c :: r)
     have hv := Lib.validD_step (c :: r) (by simp)
     have hl : 0 < (c :: r).length := by simp
     have ck := Lib.check_decode (c :: r).length ((c :: r).getD 0 0).toNat ((c :: r).getD 1 0).toNat ((c :: r).getD 2 0).toNat ((c :: r).getD 3 0).toNat hl (by show 128 ≤ c.toNat; omega) ((c :: r).getD 0 0).toNat_lt ((c :: r).getD 1 0).toNat_lt ((c :: r).getD 2 0).toNat_lt ((c :: r).getD 3 0).toNat_lt
     rw [okV_step (by simp)]
     rcases ck with ⟨_, hd⟩ | ⟨k, hk, _, hd⟩
     · rw [hd] at hd2
       rw [hd2] at hst hv
       have h0 : stepV (c :: r) = 0 := by
        by_cases h0 : stepV (c :: r) = 0
        · exact h0
        · rw [if_neg h0] at hst
          exact absurd (ascii_step (by omega) h0) hc
       rw [hv, h0]
       simp
     · rw [hd2, hd] at hst hv
       have h0 : stepV (c :: r) = k := by
        by_cases h0 : stepV (c :: r) = 0
        · rw [if_pos h0] at hst; omega
        · rw [if_neg h0] at hst; exact hst.symm
       rw [if_neg (by omega)] at hv
       rw [hv, h0]
       have := ih ((c :: r).drop k) (by rw [List.length_drop]; simp at h ⊢; omega)
       exact ⟨fun h => ⟨by omega, this.1 h⟩, fun h => this.2 h.2⟩
end Go.Proofs.YtclbmmiedihepaaGreatDoor
