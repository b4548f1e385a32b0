/- The memo's methods, of what is held. -/
import Derived.Test.YtjghbcligjiaaaaAskS
import Derived.Test.YtjghbcligjiaaaaGiveS
import Derived.Test.YtjghbcligjiaaaaNewS
namespace Go.Proofs.Ytjghbcligjiaaaa
open Go.RowKit Go.Maps Go.Sort Go.MuLone
set_option linter.unusedVariables false
set_option linter.unusedSimpArgs false
variable {w : World} {m : Nat} {A : AS ByteArray} {F : List Nat}
theorem NewHS (n : Nat) (w : World) (h1 : 1 ≤ n) (h2 : n ≤ 64) : Calls Try.prog 24 #[.int .i64 (n : Int)] w fun e w' => ∃ m F, e = .returned (.pointer (some ⟨m, 0, none⟩)) ∧ Held Try.prog Ts w' m ⟨n, [], []⟩ F ∧ (∀ b ∈ F, w.heap.size ≤ b) ∧ Below w.heap.size w w' := by
  refine (New_anyS n w h1 h2).mono ?_
  rintro e w' ⟨B, rfl, h, hf, hb⟩
  exact ⟨_, _, rfl, ⟨_, B, h, rfl, rfl, rfl⟩, hf, hb⟩
theorem AskHS (k : ByteArray) (who : Int) (h : Held Try.prog Ts w m A F) (hm : A.most ≠ 0) (hks : k.size ≤ maxLen) (hsm : SmA A 1000000) :
    Calls Try.prog 25 #[.pointer (some ⟨m, 0, none⟩), .string k, .int .i64 who] w fun e w' => e = .returned (askOut Ts (askA A k who).2) ∧ ∃ F', Held Try.prog Ts w' m (askA A k who).1 F' ∧ Grow F F' w ∧ Only F w w' := by
  obtain ⟨S, B, h, rfl, rfl, rfl⟩ := h
  refine (Ask_anyS k who w h hm hks hsm).mono ?_
  rintro e w' ⟨rfl, hs⟩
  exact ⟨rfl, hs.held⟩
theorem GiveHS (k : ByteArray) (who : Int) (x : ByteArray) (h : Held Try.prog Ts w m A F) (hks : k.size ≤ maxLen) (hx : x.size ≤ maxLen) (hm : 1 ≤ A.most) (hm2 : A.most ≤ 1000000) (hsm : SmA A 1000000) :
    Calls Try.prog 26 #[.pointer (some ⟨m, 0, none⟩), .string k, .int .i64 who, Value.string x] w fun e w' => ∃ v c F', e = .returned (.tuple #[v, .int .i64 c]) ∧ GaveH w' F F' (giveA A k who x).2 v c ∧ Held Try.prog Ts w' m (giveA A k who x).1 F' ∧ Grow F F' w ∧ Only F w w' := by
  obtain ⟨S, B, h, rfl, rfl, rfl⟩ := h
  refine (Give_anyS k who x w h hks hx hm hm2 hsm).mono ?_
  rintro e w' ⟨v, c, rfl, S', B', h1, h2, h3, h4, h5, h6⟩
  exact ⟨v, c, _, rfl, h6, ⟨S', B', h1, h2, h3, rfl⟩, h4, h5⟩
/-- A list of its own is handed back. -/
def ListHS (e : TypeId) (w : World) (m : Nat) (A : AS ByteArray) (F : List Nat) (l : List Value) (v : Value) (w' : World) : Prop :=
  OffRow e w' v l ∧ (∀ q, v.ownBlock = some q → w.heap.size ≤ q) ∧ Held Try.prog Ts w' m A F ∧ Only F w w'
theorem KeptHS (h : Held Try.prog Ts w m A F) (hm : A.most ≠ 0) (hsm : SmA A 1000000) :
    Calls Try.prog 30 #[.pointer (some ⟨m, 0, none⟩)] w fun e w' => ∃ v, e = .returned v ∧ ListHS 9 w m A F ((keys A.kept).map Value.string) v w' := by
  obtain ⟨S, B, h, rfl, rfl, rfl⟩ := h
  refine (Kept_anyS w h hm hsm).mono ?_
  rintro e w' ⟨v, rfl, h1, h2, h3, h4⟩
  exact ⟨v, rfl, by simpa [keys, MS.abs, List.map_map, Function.comp_def] using h1, h2, ⟨S, B, h3, rfl, rfl, rfl⟩, h4⟩
theorem MakingHS (h : Held Try.prog Ts w m A F) (hm : A.most ≠ 0) (hsm : SmA A 1000000) :
    Calls Try.prog 29 #[.pointer (some ⟨m, 0, none⟩)] w fun e w' => ∃ v, e = .returned v ∧ ListHS 9 w m A F ((keys A.making).map Value.string) v w' := by
  obtain ⟨S, B, h, rfl, rfl, rfl⟩ := h
  refine (Making_anyS w h hm hsm).mono ?_
  rintro e w' ⟨v, rfl, h1, h2, h3, h4⟩
  exact ⟨v, rfl, by simpa [keys, MS.abs, List.map_map, Function.comp_def] using h1, h2, ⟨S, B, h3, rfl, rfl, rfl⟩, h4⟩
theorem WaitingHS (k : ByteArray) (h : Held Try.prog Ts w m A F) (hks : k.size ≤ maxLen) (hm : A.most ≠ 0) (hsm : SmA A 1000000) :
    Calls Try.prog 27 #[.pointer (some ⟨m, 0, none⟩), .string k] w fun e w' => ∃ v, e = .returned v ∧ ListHS 3 w m A F ((waitA A k).map (Value.int .i64)) v w' := by
  obtain ⟨S, B, h, rfl, rfl, rfl⟩ := h
  refine (Waiting_anyS k w h hks hm hsm).mono ?_
  rintro e w' ⟨v, rfl, h1, h2, h3, h4⟩
  exact ⟨v, rfl, h1, h2, ⟨S, B, h3, rfl, rfl, rfl⟩, h4⟩
end Go.Proofs.Ytjghbcligjiaaaa
