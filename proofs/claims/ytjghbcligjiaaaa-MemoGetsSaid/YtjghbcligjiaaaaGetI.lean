/- Get: a key's value; it is made, if nobody makes it. -/
import Derived.Test.YtjghbcligjiaaaaHeldI
namespace Go.Proofs.Ytjghbcligjiaaaa
open Go.RowKit Go.Maps Go.Sort Go.MuLone
set_option linter.unusedVariables false
set_option linter.unusedSimpArgs false
theorem lock_heldI {w : World} {m : Nat} {A : AS Int} {F : List Nat} (h : HeldS Try.prog Ti 0 w m A F) (hm : A.most ≠ 0) :
    Calls Try.prog 34 #[.pointer (some ⟨m, 0, none⟩)] w fun e w' => e = .returned (.bool true) ∧ w' = w.setCell ⟨m, 0, none⟩ (.int .i32 1) := by
  obtain ⟨S, B, h, rfl, rfl, rfl⟩ := h
  exact lock_anyI w h hm
theorem ask_heldI {w : World} {m : Nat} {A : AS Int} {F : List Nat} {st : Int} (k : ByteArray) (who : Int) (h : HeldS Try.prog Ti st w m A F) (hks : k.size ≤ maxLen) (hsm : SmA A 1000000) :
    Calls Try.prog 36 #[.pointer (some ⟨m, 0, none⟩), .string k, .int .i64 who] w fun e w' => ∃ v p c F', e = .returned (.tuple #[v, p, c]) ∧ AskV Ti w' who (askA A k who).2 v p c ∧ HeldS Try.prog Ti st w' m (askA A k who).1 F' ∧ Grow F F' w ∧ Only F w w' := by
  obtain ⟨S, B, h, rfl, rfl, rfl⟩ := h
  refine (ask_anyI k who w st h hks hsm).mono ?_
  rintro e w' ⟨v, p, c, rfl, hv, S', B', h1, h2, h3, h4, h5⟩
  exact ⟨v, p, c, _, rfl, hv, ⟨S', B', h1, h2, h3, rfl⟩, h4, h5⟩
theorem give_heldI {w : World} {m : Nat} {A : AS Int} {F : List Nat} {st : Int} (k : ByteArray) (who : Int) (x : Int) (h : HeldS Try.prog Ti st w m A F) (hks : k.size ≤ maxLen) (hx : (Lit.int .i64 x).wf = true) (hm : 1 ≤ A.most) (hm2 : A.most ≤ 1000000) (hsm : SmA A 1000000) :
    Calls Try.prog 38 #[.pointer (some ⟨m, 0, none⟩), .string k, .int .i64 who, Value.int .i64 x] w fun e w' => ∃ v c F', e = .returned (.tuple #[v, .int .i64 c]) ∧ GaveH w' F F' (giveA A k who x).2 v c ∧ HeldS Try.prog Ti st w' m (giveA A k who x).1 F' ∧ Grow F F' w ∧ Only F w w' := by
  obtain ⟨S, B, h, rfl, rfl, rfl⟩ := h
  refine (give_anyI k who x w st h hks hx hm hm2 hsm).mono ?_
  rintro e w' ⟨v, c, rfl, S', B', h1, h2, h3, h4, h5, h6⟩
  exact ⟨v, c, _, rfl, h6, ⟨S', B', h1, h2, h3, rfl⟩, h4, h5⟩
/-- A kept key. -/
theorem Get_hitI {w : World} {m : Nat} {A : AS Int} {F : List Nat} (k : ByteArray) (who : Int) (fv : Value) (x : Int) (h : Held Try.prog Ti w m A F) (hm : A.most ≠ 0) (hks : k.size ≤ maxLen) (hsm : SmA A 1000000) (hr : (askA A k who).2 = .hit x) :
    Calls Try.prog 20 #[.pointer (some ⟨m, 0, none⟩), .string k, .int .i64 who, fv] w fun e w' => e = .returned (.tuple #[Value.int .i64 x, .int .i64 0]) ∧ ∃ F', Held Try.prog Ti w' m (askA A k who).1 F' ∧ Grow F F' w ∧ Only F w w' := by
  have h0 : HeldS Try.prog Ti 0 w m A F := h
  have hl1 := h0.set 1
  have HA := Lib.hid (ask_heldI k who hl1.1 hks hsm)
  have HL := Lib.hid (lock_heldI h0 hm)
  have HO := Lib.hid hl1.2
  have HM := Lib.hid h0.inF
  rw [hr] at HA
  clear h h0 hl1 hm hsm hr
  go_enter_defers Try.func20, Try.ntmps20
  go_wp2_with (first | (go_at_call 34; refine HL.out.mono ?_; rintro e w1 ⟨rfl, rfl⟩) | (go_at_call 36; refine HA.out.mono ?_; rintro e w2 ⟨v, p, c, F', rfl, ⟨rfl, rfl, rfl⟩, hh, hgr, hon⟩; have HH := Lib.hid hh; have HG := Lib.hid hgr; have HN := Lib.hid hon; clear hh hgr hon) | (go_at_call 35; refine (unlock_held Try.muLib ⟨m, 0, none⟩ _ HH.out.c0.1 HH.out.c0.2).mono ?_; rintro e w' ⟨rfl, rfl⟩))
  refine ⟨_, results_tmp2 rfl _ _ _, rfl, F', (HH.out.set 0).1, fun b hb => ?_, HO.out.trans (HN.out.trans (set_only HM.out))⟩
  rcases HG.out b hb with h | h
  · exact .inl h
  · rw [set_size] at h; exact .inr h
/-- One asks for what one makes. -/
theorem Get_ownI {w : World} {m : Nat} {A : AS Int} {F : List Nat} (k : ByteArray) (who : Int) (fv : Value) (h : Held Try.prog Ti w m A F) (hm : A.most ≠ 0) (hks : k.size ≤ maxLen) (hsm : SmA A 1000000) (hr : (askA A k who).2 = .own) :
    Calls Try.prog 20 #[.pointer (some ⟨m, 0, none⟩), .string k, .int .i64 who, fv] w fun e w' => e = .returned (.tuple #[(.int .i64 0), .int .i64 19]) ∧ ∃ F', Held Try.prog Ti w' m (askA A k who).1 F' ∧ Grow F F' w ∧ Only F w w' := by
  have h0 : HeldS Try.prog Ti 0 w m A F := h
  have hl1 := h0.set 1
  have HA := Lib.hid (ask_heldI k who hl1.1 hks hsm)
  have HL := Lib.hid (lock_heldI h0 hm)
  have HO := Lib.hid hl1.2
  have HM := Lib.hid h0.inF
  rw [hr] at HA
  clear h h0 hl1 hm hsm hr
  go_enter_defers Try.func20, Try.ntmps20
  go_wp2_with (first | (go_at_call 34; refine HL.out.mono ?_; rintro e w1 ⟨rfl, rfl⟩) | (go_at_call 36; go_must (refine HA.out.mono ?_; rintro e w2 ⟨v, p, c, F', rfl, ⟨rfl, rfl, pb, rfl, hcw⟩, hh, hgr, hon⟩; have hpm : pb ≠ m := (fun e => by subst e; have h1 := hh.c0.1; exact absurd (hcw.symm.trans h1) (by simp)); have hc9 : (w2.setCell ⟨m, 0, none⟩ (.int .i32 0)).cell? ⟨pb, 0, none⟩ = some (.int .i64 who) := ((World.cell?_setCell_other w2 ⟨m, 0, none⟩ ⟨pb, 0, none⟩ _ (fun e => hpm (congrArg Addr.block e).symm)).trans hcw); have HH := Lib.hid hh; have HG := Lib.hid hgr; have HN := Lib.hid hon; clear hh hgr hon)) | (go_at_call 35; refine (unlock_held Try.muLib ⟨m, 0, none⟩ _ HH.out.c0.1 HH.out.c0.2).mono ?_; rintro e w' ⟨rfl, rfl⟩))
  refine ⟨_, results_tmp2 rfl _ _ _, rfl, F', (HH.out.set 0).1, fun b hb => ?_, HO.out.trans (HN.out.trans (set_only HM.out))⟩
  rcases HG.out b hb with h | h
  · exact .inl h
  · rw [set_size] at h; exact .inr h
/-- A key that nobody has or makes: it is made. -/
theorem Get_makeI {w : World} {m : Nat} {A : AS Int} {F : List Nat} (k : ByteArray) (who : Int) (r0 : Value) (x : Int) (g : FuncId) (G : List Nat) (eg : ∀ args W, (callFunc g args).run Try.prog W = .ok (.enter g args) W) (h : Held Try.prog Ti w m A F) (hm : 1 ≤ A.most) (hm2 : A.most ≤ 1000000) (hks : k.size ≤ maxLen) (hx : (Lit.int .i64 x).wf = true) (hsm : SmA A 999999) (hr : (askA A k who).2 = .make)
    (hG : ∀ b ∈ G, b ∉ F ∧ b < w.heap.size) (R : World → Prop) (hR : ∀ W1 W2 : World, (∀ b ∈ G, W2.heap[b]? = W1.heap[b]?) → R W1 → R W2) (hmade : ∀ W : World, (∀ b ∈ G, W.heap[b]? = w.heap[b]?) → Calls Try.prog g #[r0, .string k] W fun e W' => e = .returned (Value.int .i64 x) ∧ Only G W W' ∧ R W') :
    Calls Try.prog 20 #[.pointer (some ⟨m, 0, none⟩), .string k, .int .i64 who, .func (.func g) #[r0] #[]] w fun e w' => e = .returned (.tuple #[Value.int .i64 x, .int .i64 0]) ∧
      ∃ F', Held Try.prog Ti w' m (giveA (askA A k who).1 k who x).1 F' ∧ Grow F F' w ∧ Only (F ++ G) w w' ∧ R w' := by
  have h0 : HeldS Try.prog Ti 0 w m A F := h
  have hl1 := h0.set 1
  have HA := Lib.hid (ask_heldI k who hl1.1 hks (hsm.mono (by omega)))
  have HL := Lib.hid (lock_heldI h0 (by omega))
  have HO := Lib.hid hl1.2
  have HM := Lib.hid h0.inF
  have hsm2 := (askA_sm hsm k who).mono (show 999999 + 1 ≤ 1000000 by omega)
  have hmm := askA_most A k who
  have hmg := make_give hr x
  rw [hr] at HA
  have HSM := Lib.hid hsm2
  have HMM := Lib.hid hmm
  have HMG := Lib.hid hmg
  have HGG := Lib.hid hG
  have HMD := Lib.hid hmade
  have HRR := Lib.hid hR
  clear hmade
  clear hR
  clear h h0 hl1 hsm hr hsm2 hmm hmg hG
  go_enter_defers Try.func20, Try.ntmps20
  go_wp2_with (first | (go_at_call 34; refine HL.out.mono ?_; rintro e w1 ⟨rfl, rfl⟩) | (go_at_call 36; refine HA.out.mono ?_; rintro e w2 ⟨v, p, c, F', rfl, ⟨rfl, ⟨pb, rfl⟩, rfl⟩, hh, hgr, hon⟩; have HH := Lib.hid hh; have HG := Lib.hid hgr; have HN := Lib.hid hon; clear hh hgr hon) | (go_at_call 35; refine (unlock_held Try.muLib ⟨m, 0, none⟩ _ HH.out.c0.1 HH.out.c0.2).mono ?_; rintro e w' ⟨rfl, rfl⟩))
  have ho3 := HO.out.trans (HN.out.trans (set_only (w := w2) (i := 0) (v := .int .i32 0) HM.out))
  have hk3 : ∀ b ∈ G, (w2.setCell ⟨m, 0, none⟩ (.int .i32 0)).heap[b]? = w.heap[b]? := fun b hb => ho3.block b (HGG.out b hb).2 (HGG.out b hb).1
  have h3 := (HH.out.set 0).1
  have hgr3 : Grow F F' w := fun b hb => by
    rcases HG.out b hb with h | h
    · exact .inl h
    · rw [set_size] at h; exact .inr h
  refine (HMD.out _ hk3).mono ?_
  rintro e w4 ⟨rfl, hon4, hR4⟩
  have HR4 := Lib.hid hR4
  clear hR4
  have hd4 : ∀ b ∈ F', b ∉ G := fun b hb hm => by
    rcases hgr3 b hb with h | h
    · exact (HGG.out b hm).1 h
    · have := (HGG.out b hm).2; omega
  have h4 := h3.other hon4 hd4
  have h5 := h4.set 1
  have HH4 := Lib.hid h4
  have HH5 := Lib.hid h5
  have HO3 := Lib.hid ho3
  have HO4 := Lib.hid hon4
  have HG3 := Lib.hid hgr3
  have HK3 := Lib.hid hk3
  have HD4 := Lib.hid hd4
  clear ho3 h3 hgr3 hon4 hd4 h4 h5 hk3
  go_wp2_with (first | (go_at_call 42; refine (lock_free Try.muLib ⟨m, 0, none⟩ _ HH4.out.c0.1 HH4.out.c0.2).mono ?_; rintro e w' ⟨rfl, rfl⟩) | (go_at_call 38; refine (give_heldI k who x HH5.out.1 hks hx (by rw [HMM.out]; exact hm) (by rw [HMM.out]; exact hm2) HSM.out).mono ?_; rintro e w6 ⟨v, c, F6, rfl, hgv, hh6, hgr6, hon6⟩; rw [HMG.out] at hgv; obtain ⟨hv1, rfl, hv2⟩ := hgv; have HH6 := Lib.hid hh6; have HG6 := Lib.hid hgr6; have HO6 := Lib.hid hon6; clear hh6 hgr6 hon6 hv1 hv2))
  refine leaves_cons (f := 35) (args := #[.pointer (some ⟨m, 0, none⟩)]) (by simp) (by simp [go_sem]) ?_
  refine (unlock_deferred Try.muLib ⟨m, 0, none⟩ .returning _ HH6.out.c0.1 HH6.out.c0.2).mono ?_
  rintro e u' w'' ⟨rfl, rfl, rfl⟩
  have hmF := HH5.out.1.inF
  have hlast := HH5.out.2.trans (HO6.out.trans (set_only (w := w6) (i := 0) (v := .int .i32 0) hmF))
  refine ⟨_, results_tmp2 rfl _ _ _, rfl, F6, (HH6.out.set 0).1, fun b hb => ?_, ?_, HRR.out _ _ (fun b hb => hlast.block b ?_ (fun hm => HD4.out b hm hb)) HR4.out⟩
  · rcases HG6.out b hb with h | h
    · exact HG3.out b h
    · rw [set_size] at h
      have h1 := HO3.out.size
      have h2 := HO4.out.size
      exact .inr (by omega)
  · have ha : ∀ b ∈ F', b ∈ F ++ G ∨ w.heap.size ≤ b := fun b hb => by
      rcases HG3.out b hb with h | h
      · exact .inl (List.mem_append_left _ h)
      · exact .inr h
    have o1 := (HO3.out.mono (fun b hb => List.mem_append_left G hb)).trans (HO4.out.mono (fun b hb => List.mem_append_right F hb))
    exact o1.later hlast ha
  · have h1 := HO3.out.size
    have h2 := HO4.out.size
    have h3 := (HGG.out b hb).2
    omega
end Go.Proofs.Ytjghbcligjiaaaa
