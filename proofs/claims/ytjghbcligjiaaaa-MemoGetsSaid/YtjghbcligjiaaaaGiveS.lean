/- Give: a value that was made. -/
import Derived.Test.YtjghbcligjiaaaaGiveNoneS
import Derived.Test.YtjghbcligjiaaaaGiveFullS
import Derived.Test.YtjghbcligjiaaaaLockS
import Derived.Test.YtjghbcligjiaaaaAbs
namespace Go.Proofs.Ytjghbcligjiaaaa
open Go.RowKit Go.Maps Go.Sort Go.MuLone
set_option linter.unusedVariables false
set_option linter.unusedSimpArgs false
/-- What Give hands back, and where the memo lies then. -/
def GiveSS (st : Int) (w : World) (S : MS ByteArray) (B : MB) (w' : World) (R : AS ByteArray × Option (List Int)) (v : Value) (c : Int) : Prop :=
  ∃ S' B', MemoAt Try.prog Ts w' st S' B' ∧ S'.abs = R.1 ∧ B'.m = B.m ∧ (∀ b ∈ foot S' B', b ∈ foot S B ∨ w.heap.size ≤ b) ∧ Only (foot S B) w w' ∧
    match R.2 with
    | none => v = .slice none 0 0 ∧ c = 5
    | some l => OffRow 3 w' v (l.map (Value.int .i64)) ∧ c = 0 ∧ ∀ q, v.ownBlock = some q → q ∈ foot S B ∧ q ∉ foot S' B'
theorem GiveS.stepsS {st : Int} {w w' : World} {S : MS ByteArray} {B : MB} {R : AS ByteArray × Option (List Int)} {v : Value} {c : Int} (h : GiveSS st w S B w' R v c) : Steps Try.prog Ts st w S B w' R.1 := by
  obtain ⟨S', B', h1, h2, h3, h4, h5, _⟩ := h
  exact ⟨S', B', h1, h2, h3, h4, h5⟩
theorem GiveS.roundS {w w2 : World} {S : MS ByteArray} {B : MB} {R : AS ByteArray × Option (List Int)} {v : Value} {c : Int} (h : MemoAt Try.prog Ts w 0 S B) (hs : GiveSS 1 (w.setCell ⟨B.m, 0, none⟩ (.int .i32 1)) S B w2 R v c) : GiveSS 0 w S B (w2.setCell ⟨B.m, 0, none⟩ (.int .i32 0)) R v c := by
  obtain ⟨S', B', h1, h2, h3, h4, h5, h6⟩ := hs
  refine ⟨S', B', ?_, h2, h3, fun b hb => ?_, ?_, ?_⟩
  · rw [← h3]
    exact h1.lock (set_heap h1.obj) (fun b _ hne => set_other hne)
  · rcases h4 b hb with h | h
    · exact .inl h
    · rw [set_size] at h; exact .inr h
  · exact (set_only foot_m).trans (h5.trans (set_only foot_m))
  · revert h6
    cases R.2 with
    | none => exact id
    | some l =>
      rintro ⟨a1, a2, a3⟩
      exact ⟨a1.keep (fun q hq => set_other (fun e => (a3 q hq).2 (by rw [e, ← h3]; exact foot_m))), a2, a3⟩
theorem give_anyS {S : MS ByteArray} {B : MB} (k : ByteArray) (who : Int) (x : ByteArray) (w : World) (st : Int) (h : MemoAt Try.prog Ts w st S B) (hks : k.size ≤ maxLen) (hx : x.size ≤ maxLen) (hm : 1 ≤ S.most) (hm2 : S.most ≤ 1000000) (hsm : SmA S.abs 1000000) :
    Calls Try.prog 46 #[.pointer (some ⟨B.m, 0, none⟩), .string k, .int .i64 who, Value.string x] w fun e w' => ∃ v c, e = .returned (.tuple #[v, .int .i64 c]) ∧ GiveSS st w S B w' (giveA S.abs k who x) v c := by
  have hb1 : S.kept.length ≤ 1000000 := hsm.kept
  rcases Classical.em (∀ f, getK S.making k = some f → ¬ f.who = who) with hno | hyes
  · rw [abs_give_none hno]
    refine (give_noneS who x w st h hno hks).mono ?_
    rintro e w' ⟨rfl, rfl⟩
    exact ⟨_, _, rfl, S, B, h, rfl, rfl, fun b hb => .inl hb, Only.refl _ _, rfl, rfl⟩
  · obtain ⟨f, hf, rfl⟩ : ∃ f, getK S.making k = some f ∧ f.who = who := by
      refine Classical.byContradiction fun hn => hyes fun f hf e => hn ⟨f, hf, e⟩
    rw [abs_give hf]
    have key : ∀ e w', (∃ ws, e = Ending.returned (.tuple #[ws, .int .i64 0]) ∧ GaveRS S B k x f st w ws w') → ∃ v c, e = .returned (.tuple #[v, .int .i64 c]) ∧ GiveSS st w S B w' (({ S with making := dropK S.making k, kept := if S.most < S.kept.length + 1 then (S.kept ++ [(k, x)]).tail else S.kept ++ [(k, x)] } : MS ByteArray).abs, some f.wait) v c := by
      rintro e w' ⟨ws, rfl, rfl, us', bs', h1, h2, h3, h4, h5⟩
      exact ⟨_, _, rfl, _, _, h1, rfl, rfl, h2, h3, h4, rfl, fun q hq => ⟨fl_foot hf (by simp [flFoot, mem_own.2 hq]), h5 q (by simp [flFoot, mem_own.2 hq])⟩⟩
    by_cases hfit : S.kept.length + 1 ≤ S.most
    · exact (give_fitS x w st h hf hks hx hb1 hfit hm2).mono key
    · exact (give_fullS x w st h hf hks hx hb1 (by omega) hm).mono key
theorem Give_anyS {S : MS ByteArray} {B : MB} (k : ByteArray) (who : Int) (x : ByteArray) (w : World) (h : MemoAt Try.prog Ts w 0 S B) (hks : k.size ≤ maxLen) (hx : x.size ≤ maxLen) (hm : 1 ≤ S.most) (hm2 : S.most ≤ 1000000) (hsm : SmA S.abs 1000000) :
    Calls Try.prog 26 #[.pointer (some ⟨B.m, 0, none⟩), .string k, .int .i64 who, Value.string x] w fun e w' => ∃ v c, e = .returned (.tuple #[v, .int .i64 c]) ∧ GiveSS 0 w S B w' (giveA S.abs k who x) v c := by
  have hlk := lock_anyS w h (by omega)
  have hl1 := (lockedS (st' := 1) h).1
  have hgive := give_anyS k who x _ 1 hl1 hks hx hm hm2 hsm
  have hnm : ∀ q, q ∈ foot S B → q ≠ B.m ∨ q = B.m := fun q _ => by omega
  have H := Lib.hid h
  have HL := Lib.hid hlk
  have HG := Lib.hid hgive
  clear hlk hgive hl1 hm hm2 hsm h hnm hx
  go_enter_defers Try.func26, Try.ntmps26
  go_wp2_with (first | (go_at_call 44; refine HL.out.mono ?_; rintro e w1 ⟨rfl, rfl⟩) | (go_at_call 46; refine HG.out.mono ?_; rintro e w2 ⟨v, c, rfl, hst⟩; have HS := Lib.hid hst; clear hst))
  refine leaves_cons (f := 35) (args := #[.pointer (some ⟨B.m, 0, none⟩)]) (by simp) (by simp [go_sem]) ?_
  refine (unlock_deferred Try.muLib ⟨B.m, 0, none⟩ .returning _ (GiveS.stepsS HS.out).c0.1 (GiveS.stepsS HS.out).c0.2).mono ?_
  rintro e u' w'' ⟨rfl, rfl, rfl⟩
  exact ⟨_, results_tmp2 rfl _ _ _, v, c, rfl, GiveS.roundS H.out HS.out⟩
end Go.Proofs.Ytjghbcligjiaaaa
