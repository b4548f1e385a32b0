/- Kept, Making, Waiting: lists of their own. -/
import Derived.Test.YtjghbcligjiaaaaLockS
import Derived.Test.YtjghbcligjiaaaaAbs
import Derived.Test.YtjghbcligjiaaaaClone
namespace Go.Proofs.Ytjghbcligjiaaaa
open Go.RowKit Go.Maps Go.Sort Go.MuLone
set_option linter.unusedVariables false
set_option linter.unusedSimpArgs false
/-- A list of its own was handed back; the memo is what it was. -/
def ListedS (e : TypeId) (S : MS ByteArray) (B : MB) (w : World) (l : List Value) (v : Value) (w' : World) : Prop :=
  OffRow e w' v l ∧ (∀ q, v.ownBlock = some q → w.heap.size ≤ q) ∧ MemoAt Try.prog Ts w' 0 S B ∧ Only (foot S B) w w'
theorem listed_endS {e : TypeId} {S : MS ByteArray} {B : MB} {w w2 : World} {l : List Value} {v : Value} (h : MemoAt Try.prog Ts w 0 S B) (hr : OffRow e w2 v l) (hq : ∀ q, v.ownBlock = some q → w.heap.size ≤ q) (hb : Below w.heap.size (w.setCell ⟨B.m, 0, none⟩ (.int .i32 1)) w2) :
    w2.cell? ⟨B.m, 0, none⟩ = some (.int .i32 1) ∧ w2.frozen? ⟨B.m, 0, none⟩ = false ∧ ListedS e S B w l v (w2.setCell ⟨B.m, 0, none⟩ (.int .i32 0)) := by
  have h1 := (lockedS (st' := 1) h).1
  have hm := h.lt _ foot_m
  have h2 : MemoAt Try.prog Ts w2 1 S B := h1.keep (fun b hb2 => hb.block b (h.lt b hb2))
  have hc := cells_of h2.obj
  refine ⟨hc.c0, hc.fz 0, hr.keep (fun q hq2 => set_other (by have := hq q hq2; omega)), hq, h2.lock (set_heap h2.obj) (fun b _ hne => set_other hne), ?_⟩
  have e1 : Only (foot S B) (w.setCell ⟨B.m, 0, none⟩ (.int .i32 1)) w2 := Only.below (by rw [set_size]; exact hb)
  exact (set_only foot_m).trans (e1.trans (set_only foot_m))
theorem Kept_anyS {S : MS ByteArray} {B : MB} (w : World) (h : MemoAt Try.prog Ts w 0 S B) (hm : S.most ≠ 0) (hsm : SmA S.abs 1000000) :
    Calls Try.prog 30 #[.pointer (some ⟨B.m, 0, none⟩)] w fun e w' => ∃ v, e = .returned v ∧ ListedS 9 S B w (S.kept.map (fun p => Value.string p.1)) v w' := by
  have hlk := lock_anyS w h hm
  have hl1 := (lockedS (st' := 1) h).1
  have hcl := clone_str B.us _ (w.setCell ⟨B.m, 0, none⟩ (.int .i32 1)) hl1.used (by have := hsm.kept; simp [MS.abs] at this ⊢; omega) (fun u hu => by obtain ⟨p, _, rfl⟩ := List.mem_map.1 hu; rfl)
  rw [set_size] at hcl
  have c4 := (cells_of hl1.obj).c4
  have H := Lib.hid h
  have HL := Lib.hid hlk
  have HC := Lib.hid hcl
  clear hlk hl1 hcl hm hsm h
  go_enter_defers Try.func30, Try.ntmps30
  go_wp2_with (first | (go_at_call 44; refine HL.out.mono ?_; rintro e w1 ⟨rfl, rfl⟩) | (go_at_call 37; refine HC.out.mono ?_; rintro e w2 ⟨v, rfl, hr, hq, hb⟩; have HE := Lib.hid (listed_endS H.out hr hq hb); clear hr hq hb))
  refine leaves_cons (f := 35) (args := #[.pointer (some ⟨B.m, 0, none⟩)]) (by simp) (by simp [go_sem]) ?_
  refine (unlock_deferred Try.muLib ⟨B.m, 0, none⟩ .returning _ HE.out.1 HE.out.2.1).mono ?_
  rintro e u' w'' ⟨rfl, rfl, rfl⟩
  exact ⟨_, results_tmp rfl _ _ _, v, rfl, HE.out.2.2⟩
theorem Making_anyS {S : MS ByteArray} {B : MB} (w : World) (h : MemoAt Try.prog Ts w 0 S B) (hm : S.most ≠ 0) (hsm : SmA S.abs 1000000) :
    Calls Try.prog 29 #[.pointer (some ⟨B.m, 0, none⟩)] w fun e w' => ∃ v, e = .returned v ∧ ListedS 9 S B w (S.making.map (fun p => Value.string p.1)) v w' := by
  have hlk := lock_anyS w h hm
  have hl1 := (lockedS (st' := 1) h).1
  have hcl := clone_str B.bs _ (w.setCell ⟨B.m, 0, none⟩ (.int .i32 1)) hl1.began (by have := hsm.making; simp [MS.abs] at this ⊢; omega) (fun u hu => by obtain ⟨p, _, rfl⟩ := List.mem_map.1 hu; rfl)
  rw [set_size] at hcl
  have c4 := (cells_of hl1.obj).c6
  have H := Lib.hid h
  have HL := Lib.hid hlk
  have HC := Lib.hid hcl
  clear hlk hl1 hcl hm hsm h
  go_enter_defers Try.func29, Try.ntmps29
  go_wp2_with (first | (go_at_call 44; refine HL.out.mono ?_; rintro e w1 ⟨rfl, rfl⟩) | (go_at_call 37; refine HC.out.mono ?_; rintro e w2 ⟨v, rfl, hr, hq, hb⟩; have HE := Lib.hid (listed_endS H.out hr hq hb); clear hr hq hb))
  refine leaves_cons (f := 35) (args := #[.pointer (some ⟨B.m, 0, none⟩)]) (by simp) (by simp [go_sem]) ?_
  refine (unlock_deferred Try.muLib ⟨B.m, 0, none⟩ .returning _ HE.out.1 HE.out.2.1).mono ?_
  rintro e u' w'' ⟨rfl, rfl, rfl⟩
  exact ⟨_, results_tmp rfl _ _ _, v, rfl, HE.out.2.2⟩
set_option maxRecDepth 100000 in
theorem Waiting_anyS {S : MS ByteArray} {B : MB} (k : ByteArray) (w : World) (h : MemoAt Try.prog Ts w 0 S B) (hks : k.size ≤ maxLen) (hm : S.most ≠ 0) (hsm : SmA S.abs 1000000) :
    Calls Try.prog 27 #[.pointer (some ⟨B.m, 0, none⟩), .string k] w fun e w' => ∃ v, e = .returned v ∧ ListedS 3 S B w ((waitA S.abs k).map (Value.int .i64)) v w' := by
  have hlk := lock_anyS w h hm
  have hl1 := (lockedS (st' := 1) h).1
  have hl2 := look_flts hl1 law9 Try.underlying98 (zrun101 _) (key9 hks)
  have c5 := (cells_of hl1.obj).c5
  cases hg : getK S.making k with
  | none =>
    have hwa : waitA S.abs k = [] := by unfold waitA; rw [abs_making, hg]; rfl
    rw [hwa]
    have HE := Lib.hid (listed_endS (e := 3) h (v := .slice none 0 0) OffRow.nil_ (fun q hq => by simp [Value.ownBlock] at hq) (Below.refl _ _))
    rw [hg] at hl2
    simp only [ptrOf, Option.isSome_none] at hl2
    have HL := Lib.hid hlk
    clear hlk hl1 hm hsm h hg
    go_enter_defers Try.func27, Try.ntmps27
    go_wp2_with (go_at_call 44; refine HL.out.mono ?_; rintro e w1 ⟨rfl, rfl⟩)
    refine leaves_cons (f := 35) (args := #[.pointer (some ⟨B.m, 0, none⟩)]) (by simp) (by simp [go_sem]) ?_
    refine (unlock_deferred Try.muLib ⟨B.m, 0, none⟩ .returning _ HE.out.1 HE.out.2.1).mono ?_
    rintro e u' w'' ⟨rfl, rfl, rfl⟩
    exact ⟨_, results_tmp rfl _ _ _, .slice none 0 0, rfl, HE.out.2.2⟩
  | some f =>
    have hwa : waitA S.abs k = f.wait := by unfold waitA; rw [abs_making, hg]; rfl
    rw [hwa]
    rw [hg] at hl2
    simp only [ptrOf, Option.isSome_some] at hl2
    have hfl := hl1.fls _ (getK_mem hg)
    have f1 := (fcells_of hfl).c1
    have hb3 : f.wait.length ≤ 1000000 := by
      have := hsm.wait (k, flA f) (by unfold MS.abs; exact List.mem_map.2 ⟨_, getK_mem hg, rfl⟩)
      exact this
    have hcl := clone_int f.ws _ (w.setCell ⟨B.m, 0, none⟩ (.int .i32 1)) hfl.row (by simp; omega) (fun u hu => by obtain ⟨p, _, rfl⟩ := List.mem_map.1 hu; rfl)
    rw [set_size] at hcl
    have H := Lib.hid h
    have HL := Lib.hid hlk
    have HC := Lib.hid hcl
    clear hlk hl1 hm hsm h hg hfl hb3 hcl
    go_enter_defers Try.func27, Try.ntmps27
    go_wp2_with (first | (go_at_call 44; refine HL.out.mono ?_; rintro e w1 ⟨rfl, rfl⟩) | (go_at_call 40; refine HC.out.mono ?_; rintro e w2 ⟨v, rfl, hr, hq, hb⟩; have HE := Lib.hid (listed_endS H.out hr hq hb); clear hr hq hb))
    refine leaves_cons (f := 35) (args := #[.pointer (some ⟨B.m, 0, none⟩)]) (by simp) (by simp [go_sem]) ?_
    refine (unlock_deferred Try.muLib ⟨B.m, 0, none⟩ .returning _ HE.out.1 HE.out.2.1).mono ?_
    rintro e u' w'' ⟨rfl, rfl, rfl⟩
    exact ⟨_, results_tmp rfl _ _ _, v, rfl, HE.out.2.2⟩
end Go.Proofs.Ytjghbcligjiaaaa
