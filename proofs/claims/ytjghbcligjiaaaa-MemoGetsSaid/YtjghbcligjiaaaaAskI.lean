/- Ask: a key's value, or who makes it. -/
import Derived.Test.YtjghbcligjiaaaaAskHitI
import Derived.Test.YtjghbcligjiaaaaAskWaitI
import Derived.Test.YtjghbcligjiaaaaAskMakeI
import Derived.Test.YtjghbcligjiaaaaLockI
import Derived.Test.YtjghbcligjiaaaaAbs
namespace Go.Proofs.Ytjghbcligjiaaaa
open Go.RowKit Go.Maps Go.Sort Go.MuLone
set_option linter.unusedVariables false
set_option linter.unusedSimpArgs false
theorem ask_anyI {S : MS Int} {B : MB} (k : ByteArray) (who : Int) (w : World) (st : Int) (h : MemoAt Try.prog Ti w st S B) (hks : k.size ≤ maxLen) (hsm : SmA S.abs 1000000) :
    Calls Try.prog 36 #[.pointer (some ⟨B.m, 0, none⟩), .string k, .int .i64 who] w fun e w' => ∃ v p c, e = .returned (.tuple #[v, p, c]) ∧ AskV Ti w' who (askA S.abs k who).2 v p c ∧ Steps Try.prog Ti st w S B w' (askA S.abs k who).1 := by
  have hb1 : S.kept.length ≤ 1000000 := hsm.kept
  have hb2 : S.making.length ≤ 1000000 := by have := hsm.making; simpa [MS.abs] using this
  cases hk : getK S.kept k with
  | some x =>
    rw [abs_hit hk]
    refine (ask_hitI who w st h hk hks hb1).mono ?_
    rintro e w' ⟨rfl, us', h1, h2, h3⟩
    exact ⟨_, _, _, rfl, ⟨rfl, rfl, rfl⟩, _, _, h1, rfl, rfl, foot_us_of h2, h3⟩
  | none =>
    cases hf : getK S.making k with
    | none =>
      refine (ask_makeI who w st h hk hf hks hb2).mono ?_
      rintro e w' ⟨b, rfl, f, bs', h1, h2, h3, h4, h5, h6⟩
      rw [abs_make hk hf h2 h3]
      exact ⟨_, _, _, rfl, ⟨rfl, ⟨_, rfl⟩, rfl⟩, _, _, h4, rfl, rfl, h5, h6⟩
    | some f =>
      by_cases hw : f.who = who
      · subst hw
        rw [abs_own hk hf]
        refine (ask_ownI w st h hk hf hks).mono ?_
        rintro e w' ⟨rfl, rfl⟩
        exact ⟨_, _, _, rfl, ⟨rfl, rfl, _, rfl, (fcells_of (h.fls _ (getK_mem hf))).c0⟩, Steps.same h rfl rfl rfl rfl rfl⟩
      · by_cases hm : who ∈ f.wait
        · rw [abs_waits hk hf hw hm]
          refine (ask_waitsI who w st h hk hf hks hw hm).mono ?_
          rintro e w' ⟨rfl, q, rfl⟩
          exact ⟨_, _, _, rfl, ⟨rfl, rfl, _, _, rfl, (fcells_of (h.fls _ (getK_mem hf))).c0, hw⟩, Steps.same h rfl rfl rfl rfl rfl⟩
        · have hb3 : f.wait.length ≤ 1000000 := by
            have := hsm.wait (k, flA f) (by unfold MS.abs; exact List.mem_map.2 ⟨_, getK_mem hf, rfl⟩)
            exact this
          refine (ask_waitI who w st h hk hf hks hw hm hb3).mono ?_
          rintro e w' ⟨rfl, ws', h1, h2, h3⟩
          rw [abs_wait hk hf hw hm ws']
          have hf2 : (k, ({ f with wait := f.wait ++ [who], ws := ws' } : Fl)) ∈ setK S.making k { f with wait := f.wait ++ [who], ws := ws' } := by
            refine getK_mem ?_
            rw [getK_setK, if_pos rfl, hf]; rfl
          exact ⟨_, _, _, rfl, ⟨rfl, rfl, _, _, rfl, (fcells_of (h1.fls _ hf2)).c0, hw⟩, _, _, h1, rfl, rfl, h2, h3⟩
theorem Ask_anyI {S : MS Int} {B : MB} (k : ByteArray) (who : Int) (w : World) (h : MemoAt Try.prog Ti w 0 S B) (hm : S.most ≠ 0) (hks : k.size ≤ maxLen) (hsm : SmA S.abs 1000000) :
    Calls Try.prog 9 #[.pointer (some ⟨B.m, 0, none⟩), .string k, .int .i64 who] w fun e w' => e = .returned (askOut Ti (askA S.abs k who).2) ∧ Steps Try.prog Ti 0 w S B w' (askA S.abs k who).1 := by
  have hlk := lock_anyI w h hm
  have hl1 := (lockedI (st' := 1) h).1
  have hask := ask_anyI k who _ 1 hl1 hks hsm
  have H := Lib.hid h
  have HL := Lib.hid hlk
  have HA := Lib.hid hask
  clear hlk hask hl1 hm hsm
  generalize hR : (askA S.abs k who).2 = r at HA ⊢
  cases r with
  | hit x =>
    clear h
    go_enter_defers Try.func9, Try.ntmps9
    go_wp2_with (first | (go_at_call 34; refine HL.out.mono ?_; rintro e w1 ⟨rfl, rfl⟩) | (go_at_call 36; refine HA.out.mono ?_; rintro e w2 ⟨v, p, c, rfl, ⟨rfl, rfl, rfl⟩, hst⟩; have HS := Lib.hid hst; clear hst))
    refine leaves_cons (f := 35) (args := #[.pointer (some ⟨B.m, 0, none⟩)]) (by simp) (by simp [go_sem]) ?_
    refine (unlock_deferred Try.muLib ⟨B.m, 0, none⟩ .returning _ HS.out.c0.1 HS.out.c0.2).mono ?_
    rintro e u' w'' ⟨rfl, rfl, rfl⟩
    exact ⟨_, results_tmp3 rfl _ _ _, rfl, Steps.round H.out HS.out⟩
  | make =>
    clear h
    go_enter_defers Try.func9, Try.ntmps9
    go_wp2_with (first | (go_at_call 34; refine HL.out.mono ?_; rintro e w1 ⟨rfl, rfl⟩) | (go_at_call 36; refine HA.out.mono ?_; rintro e w2 ⟨v, p, c, rfl, ⟨rfl, ⟨b, rfl⟩, rfl⟩, hst⟩; have HS := Lib.hid hst; clear hst))
    refine leaves_cons (f := 35) (args := #[.pointer (some ⟨B.m, 0, none⟩)]) (by simp) (by simp [go_sem]) ?_
    refine (unlock_deferred Try.muLib ⟨B.m, 0, none⟩ .returning _ HS.out.c0.1 HS.out.c0.2).mono ?_
    rintro e u' w'' ⟨rfl, rfl, rfl⟩
    exact ⟨_, results_tmp3 rfl _ _ _, rfl, Steps.round H.out HS.out⟩
  | wait =>
    clear h
    go_enter_defers Try.func9, Try.ntmps9
    go_wp2_with (first | (go_at_call 34; refine HL.out.mono ?_; rintro e w1 ⟨rfl, rfl⟩) | (go_at_call 36; refine HA.out.mono ?_; rintro e w2 ⟨v, p, c, rfl, ⟨rfl, rfl, b, fw, rfl, hcw, hne⟩, hst⟩; have HS := Lib.hid hst; clear hst))
    refine leaves_cons (f := 35) (args := #[.pointer (some ⟨B.m, 0, none⟩)]) (by simp) (by simp [go_sem]) ?_
    refine (unlock_deferred Try.muLib ⟨B.m, 0, none⟩ .returning _ HS.out.c0.1 HS.out.c0.2).mono ?_
    rintro e u' w'' ⟨rfl, rfl, rfl⟩
    exact ⟨_, results_tmp3 rfl _ _ _, rfl, Steps.round H.out HS.out⟩
  | own =>
    clear h
    go_enter_defers Try.func9, Try.ntmps9
    go_wp2_with (first | (go_at_call 34; refine HL.out.mono ?_; rintro e w1 ⟨rfl, rfl⟩) | (go_at_call 36; refine HA.out.mono ?_; rintro e w2 ⟨v, p, c, rfl, ⟨rfl, rfl, b, rfl, hcw⟩, hst⟩; have HS := Lib.hid hst; clear hst))
    refine leaves_cons (f := 35) (args := #[.pointer (some ⟨B.m, 0, none⟩)]) (by simp) (by simp [go_sem]) ?_
    refine (unlock_deferred Try.muLib ⟨B.m, 0, none⟩ .returning _ HS.out.c0.1 HS.out.c0.2).mono ?_
    rintro e u' w'' ⟨rfl, rfl, rfl⟩
    exact ⟨_, results_tmp3 rfl _ _ _, rfl, Steps.round H.out HS.out⟩
end Go.Proofs.Ytjghbcligjiaaaa
