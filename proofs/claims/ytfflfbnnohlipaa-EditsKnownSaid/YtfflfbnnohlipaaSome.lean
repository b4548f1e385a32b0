/- emendlaw07.of, some. -/
import Derived.Test.YtfflfbnnohlipaaBase
namespace Go.Proofs.Ytfflfbnnohlipaa
open Go.RowKit

theorem of_any (a b : Int) (t : ByteArray) (w : World) :
    Calls Try.prog 25 #[.int .i64 a, .int .i64 b, .string t] w fun e w' => e = .returned (.agg #[.int .i64 a, .int .i64 b, .string t]) ∧ Below w.heap.size w w' := by
  go_enter Try.func25, Try.ntmps25
  go_wp2
  exact bodyPost_ret (v := .agg #[.int .i64 a, .int .i64 b, .string t]) (by simp [results, Try.results25, go_sem]) rfl ⟨rfl, (Below.refl _ _).alloc (Nat.le_refl _) _⟩

def sX : ByteArray := ⟨#[88]⟩
def sY : ByteArray := ⟨#[89]⟩
def sZ : ByteArray := ⟨#[90]⟩
def someL : List Spl := [⟨1, 3, sX⟩, ⟨3, 3, sY⟩, ⟨3, 3, sZ⟩]

theorem some_any (w : World) : Calls Try.prog 31 #[] w fun e w' => RetRow Spl.cells 3 someL e w' ∧ Below w.heap.size w w' := by
  go_enter Try.func31, Try.ntmps31
  go_wp2_with (go_at_call 25; refine (of_any _ _ _ _).mono ?_; rintro e w1 ⟨rfl, hb⟩)
  rename_i wa ha wb hb1
  go_ret
  refine ⟨⟨_, _, rfl, RowOf.made Spl.len _ _ _ _ rfl _ rfl⟩, ?_⟩
  have hs1 := ha.size
  have hs2 := hb1.size
  have hs3 := hb.size
  exact ((ha.trans (hb1.mono hs1)).trans (hb.mono (by omega))).alloc (by omega) _
end Go.Proofs.Ytfflfbnnohlipaa
