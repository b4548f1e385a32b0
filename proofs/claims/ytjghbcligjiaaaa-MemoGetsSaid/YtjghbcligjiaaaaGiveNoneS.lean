/- give of a key that the giver does not make. -/
import Derived.Test.YtjghbcligjiaaaaInst
import Derived.Test.YtjghbcligjiaaaaEnds
import Derived.WalkSpells
namespace Go.Proofs.Ytjghbcligjiaaaa
open Go.RowKit Go.Maps Go.Sort
set_option linter.unusedVariables false
set_option linter.unusedSimpArgs false

set_option maxRecDepth 100000 in
theorem give_noneS {S : MS ByteArray} {B : MB} {k : ByteArray} (who : Int) (x : ByteArray) (w : World) (st : Int) (h : MemoAt Try.prog Ts w st S B) (hf : ∀ f, getK S.making k = some f → ¬ f.who = who) (hks : k.size ≤ maxLen) :
    Calls Try.prog 46 #[.pointer (some ⟨B.m, 0, none⟩), .string k, .int .i64 who, Value.string x] w fun e w' => e = .returned (.tuple #[.slice none 0 0, .int .i64 5]) ∧ w' = w := by
  have hC := cells_of h.obj
  have hl2 := look_flts h law9 Try.underlying98 (zrun101 w) (key9 hks)
  have c5 := hC.c5
  cases hg : getK S.making k with
  | none =>
    rw [hg] at hl2
    simp only [ptrOf, Option.isSome_none] at hl2
    clear hC h hf hg
    go_enter Try.func46, Try.ntmps46
    go_wp2_with fail
    go_ret2
    exact ⟨rfl, rfl⟩
  | some f =>
    rw [hg] at hl2
    simp only [ptrOf, Option.isSome_some] at hl2
    have hne := hf f hg
    have f0 := (fcells_of (h.fls _ (getK_mem hg))).c0
    clear hC h hf hg
    go_enter Try.func46, Try.ntmps46
    go_wp2_with fail
    go_ret2
    exact ⟨rfl, rfl⟩
end Go.Proofs.Ytjghbcligjiaaaa
