/- What EditsKnown asks of Flat, Whole and Check. -/
import Derived.Test.YtfflfbnnohlipaaAwake
import Derived.Test.YtfflfbnnohlipaaFlat
import Derived.Test.YtfflfbnnohlipaaWhole
namespace Go.Proofs.Ytfflfbnnohlipaa
open Go.RowKit
set_option linter.unusedVariables false
set_option linter.unusedSimpArgs false

def abc2 : ByteArray := ⟨#[97, 98, 99, 100, 101, 102]⟩
def pt1 : List Prt := [⟨0, 0, ⟨#[40]⟩, false⟩, ⟨2, 4, ⟨#[]⟩, false⟩, ⟨0, 0, ⟨#[41]⟩, false⟩, ⟨0, 0, ⟨#[110]⟩, true⟩]
def pt2 : List Prt := [⟨2, 7, ⟨#[]⟩, false⟩]
def fl1 : List Spl := [⟨0, 1, ⟨#[40, 99, 100, 41, 110]⟩⟩]
theorem flat_1 (g : Nat) (A : Addr) (c : Nat) (w : World) (hr : RowOf RCut.cells 3 w w.heap.size (some A) [⟨0, 1, some ⟨g, 0, none⟩, 4, pt1⟩]) (hd : RowOf Prt.cells 4 w w.heap.size (some ⟨g, 0, none⟩) pt1) :
    Calls Try.prog 21 #[.string ⟨#[97, 98, 99, 100, 101, 102]⟩, .slice (some A) 1 c] w fun e w' => (∃ b off c, e = .returned (.tuple #[.slice (some ⟨b, off, none⟩) 1 c, .int .i64 0]) ∧ Row w' w'.heap.size (some ⟨b, off, none⟩) fl1) ∧ Below w.heap.size w w' := by
  have hE : flatE ⟨#[97, 98, 99, 100, 101, 102]⟩ [⟨0, 1, some ⟨g, 0, none⟩, 4, pt1⟩] = 0 := by rfl
  have hS : flatS ⟨#[97, 98, 99, 100, 101, 102]⟩ [⟨0, 1, some ⟨g, 0, none⟩, 4, pt1⟩] = fl1 := by rfl
  refine (flat_any ⟨#[97, 98, 99, 100, 101, 102]⟩ (some A) c _ w (by decide) ⟨by simp, fun x hx => by
    simp only [List.mem_singleton] at hx
    subst hx
    exact ⟨by show pt1.length ≤ 100; decide, fun p hp => by simp [pt1] at hp; rcases hp with rfl | rfl | rfl | rfl <;> decide⟩⟩ hr (fun x hx => by simp only [List.mem_singleton] at hx; subst hx; exact hd)).mono fun e w' ⟨h, hb⟩ => ?_
  rcases h with ⟨_, A, c, he, hr⟩ | ⟨h, _⟩
  · rw [hS] at he hr
    obtain ⟨b, off, rfl, _, _⟩ := Spl.at_ (k := 0) hr rfl
    exact ⟨⟨b, off, c, he, hr⟩, hb⟩
  · exact absurd hE h
theorem flat_2 (g : Nat) (A : Addr) (c : Nat) (w : World) (hr : RowOf RCut.cells 3 w w.heap.size (some A) [⟨0, 0, some ⟨g, 0, none⟩, 1, pt2⟩]) (hd : RowOf Prt.cells 4 w w.heap.size (some ⟨g, 0, none⟩) pt2) :
    Calls Try.prog 21 #[.string ⟨#[97, 98, 99, 100, 101, 102]⟩, .slice (some A) 1 c] w fun e w' => e = .returned (.tuple #[.slice none 0 0, .int .i64 2]) ∧ Below w.heap.size w w' := by
  have hE : flatE ⟨#[97, 98, 99, 100, 101, 102]⟩ [⟨0, 0, some ⟨g, 0, none⟩, 1, pt2⟩] = 2 := by rfl
  refine (flat_any ⟨#[97, 98, 99, 100, 101, 102]⟩ (some A) c _ w (by decide) ⟨by simp, fun x hx => by
    simp only [List.mem_singleton] at hx
    subst hx
    exact ⟨by show pt2.length ≤ 100; decide, fun p hp => by simp [pt2] at hp; subst hp; decide⟩⟩ hr (fun x hx => by simp only [List.mem_singleton] at hx; subst hx; exact hd)).mono fun e w' ⟨h, hb⟩ => ?_
  rcases h with ⟨h, _⟩ | ⟨_, he⟩
  · rw [hE] at h; exact absurd h (by decide)
  · rw [hE] at he; exact ⟨he, hb⟩
theorem flat_3 (A : Addr) (c : Nat) (w : World) (hr : RowOf RCut.cells 3 w w.heap.size (some A) [⟨7, 7, none, 0, []⟩]) :
    Calls Try.prog 21 #[.string ⟨#[97, 98, 99, 100, 101, 102]⟩, .slice (some A) 1 c] w fun e w' => e = .returned (.tuple #[.slice none 0 0, .int .i64 2]) ∧ Below w.heap.size w w' := by
  have hE : flatE ⟨#[97, 98, 99, 100, 101, 102]⟩ [⟨7, 7, none, 0, []⟩] = 2 := by rfl
  refine (flat_any ⟨#[97, 98, 99, 100, 101, 102]⟩ (some A) c _ w (by decide) ⟨by decide, fun x hx => by
    simp only [List.mem_singleton] at hx
    subst hx
    exact ⟨by decide, fun p hp => by cases hp⟩⟩ hr (fun x hx => by simp only [List.mem_singleton] at hx; subst hx; exact RowOf.nil_)).mono fun e w' ⟨h, hb⟩ => ?_
  rcases h with ⟨h, _⟩ | ⟨_, he⟩
  · rw [hE] at h; exact absurd h (by decide)
  · rw [hE] at he; exact ⟨he, hb⟩
def dcs : List Dc := [⟨⟨#[117]⟩, ⟨#[97, 98]⟩, 3⟩]
def dcD : List Dc := [⟨⟨#[117]⟩, ⟨#[97, 120, 98]⟩, 3⟩]
def spx : List Spl := [⟨1, 1, ⟨#[120]⟩⟩]
theorem whole_err (A A2 : Addr) (c c2 : Nat) (l : List RDe) (n : Int) (w : World) (hf : FineW dcs l) (hv : wholeV dcs l = .error n) (hr : RowOf Dc.cells 3 w w.heap.size (some A) dcs) (hr2 : RowOf RDe.cells 3 w w.heap.size (some A2) l) (hd : DeepE w w.heap.size l) (hc2 : l.length ≤ c2) :
    Calls Try.prog 19 #[.slice (some A) 1 c, .slice (some A2) l.length c2] w fun e w' => e = .returned (.tuple #[.slice none 0 0, .int .i64 n]) ∧ Below w.heap.size w w' := by
  refine (whole_any (some A) c dcs (some A2) c2 l w hf hr hr2 hd (fun h => by cases h) hc2).mono fun e w' ⟨h, hb⟩ => ?_
  rcases h with ⟨out, h, _⟩ | ⟨m, h, he⟩
  · rw [hv] at h; cases h
  · rw [hv] at h
    injection h with h
    subst h
    exact ⟨he, hb⟩
theorem whole_1 (A A2 : Addr) (c : Nat) (w : World) (hr : RowOf Dc.cells 3 w w.heap.size (some A) dcs) (hr2 : RowOf RDe.cells 3 w w.heap.size (some A2) [⟨⟨#[117]⟩, 2, none, 0, []⟩]) :
    Calls Try.prog 19 #[.slice (some A) 1 c, .slice (some A2) 1 1] w fun e w' => e = .returned (.tuple #[.slice none 0 0, .int .i64 18]) ∧ Below w.heap.size w w' :=
  whole_err A A2 c 1 [⟨⟨#[117]⟩, 2, none, 0, []⟩] 18 w ⟨by decide, by decide, fun d hd => by simp [dcs] at hd; subst hd; decide, fun x hx => by simp only [List.mem_singleton] at hx; subst hx; exact ⟨by decide, fun x hx => (by cases hx), by decide⟩⟩ (by rfl) hr hr2 (fun x hx => by simp only [List.mem_singleton] at hx; subst hx; exact RowOf.nil_) (by decide)
theorem whole_2 (A A2 : Addr) (c : Nat) (w : World) (hr : RowOf Dc.cells 3 w w.heap.size (some A) dcs) (hr2 : RowOf RDe.cells 3 w w.heap.size (some A2) [⟨⟨#[119]⟩, 3, none, 0, []⟩]) :
    Calls Try.prog 19 #[.slice (some A) 1 c, .slice (some A2) 1 1] w fun e w' => e = .returned (.tuple #[.slice none 0 0, .int .i64 5]) ∧ Below w.heap.size w w' :=
  whole_err A A2 c 1 [⟨⟨#[119]⟩, 3, none, 0, []⟩] 5 w ⟨by decide, by decide, fun d hd => by simp [dcs] at hd; subst hd; decide, fun x hx => by simp only [List.mem_singleton] at hx; subst hx; exact ⟨by decide, fun x hx => (by cases hx), by decide⟩⟩ (by rfl) hr hr2 (fun x hx => by simp only [List.mem_singleton] at hx; subst hx; exact RowOf.nil_) (by decide)
theorem whole_3 (A A2 : Addr) (c : Nat) (w : World) (hr : RowOf Dc.cells 3 w w.heap.size (some A) dcs) (hr2 : RowOf RDe.cells 3 w w.heap.size (some A2) [⟨⟨#[117]⟩, 3, none, 0, []⟩, ⟨⟨#[117]⟩, 3, none, 0, []⟩]) :
    Calls Try.prog 19 #[.slice (some A) 1 c, .slice (some A2) 2 2] w fun e w' => e = .returned (.tuple #[.slice none 0 0, .int .i64 13]) ∧ Below w.heap.size w w' :=
  whole_err A A2 c 2 [⟨⟨#[117]⟩, 3, none, 0, []⟩, ⟨⟨#[117]⟩, 3, none, 0, []⟩] 13 w ⟨by decide, by decide, fun d hd => by simp [dcs] at hd; subst hd; decide, fun x hx => by simp at hx; subst hx; exact ⟨by decide, fun x hx => (by cases hx), by decide⟩⟩ (by rfl) hr hr2 (fun x hx => by simp at hx; subst hx; exact RowOf.nil_) (by decide)
theorem whole_4 (g : Nat) (A A2 : Addr) (c : Nat) (w : World) (hr : RowOf Dc.cells 3 w w.heap.size (some A) dcs) (hr2 : RowOf RDe.cells 3 w w.heap.size (some A2) [⟨⟨#[117]⟩, 3, some ⟨g, 0, none⟩, 1, spx⟩]) (hd : Row w w.heap.size (some ⟨g, 0, none⟩) spx) :
    Calls Try.prog 19 #[.slice (some A) 1 c, .slice (some A2) 1 1] w fun e w' => (∃ b off c, e = .returned (.tuple #[.slice (some ⟨b, off, none⟩) 1 c, .int .i64 0]) ∧ RowOf Dc.cells 3 w' w'.heap.size (some ⟨b, off, none⟩) dcD) ∧ Below w.heap.size w w' := by
  have hv : wholeV dcs [⟨⟨#[117]⟩, 3, some ⟨g, 0, none⟩, 1, spx⟩] = .ok dcD := by rfl
  refine (whole_any (some A) c dcs (some A2) 1 [⟨⟨#[117]⟩, 3, some ⟨g, 0, none⟩, 1, spx⟩] w ⟨by decide, by simp, fun d hd => by simp [dcs] at hd; subst hd; decide, fun x hx => by simp only [List.mem_singleton] at hx; subst hx; exact ⟨by show spx.length ≤ 30; decide, fun x hx => (by simp [spx] at hx; subst hx; decide), by show (⟨#[117]⟩ : ByteArray).size ≤ 9223372036854775807; decide⟩⟩ hr hr2 (fun x hx => by simp only [List.mem_singleton] at hx; subst hx; exact hd) (fun h => by cases h) (by simp)).mono fun e w' ⟨h, hb⟩ => ?_
  rcases h with ⟨out, h, _, A, c, he, hr⟩ | ⟨m, h, he⟩
  · rw [hv] at h
    injection h with h
    subst h
    obtain ⟨b, off, rfl, _⟩ := hr (by decide)
    exact ⟨⟨b, off, c, he, hr⟩, hb⟩
  · rw [hv] at h; cases h
theorem check_n (n : Int) (w : World) : Calls Try.prog 18 #[.int .i64 n, .slice none 0 0] w fun e w' => e = .returned (.int .i64 (if 0 ≤ n then 0 else 2)) ∧ Below w.heap.size w w' :=
  (check_any n none 0 [] w (by decide) RowOf.nil_).mono fun e w' ⟨h, hb⟩ => ⟨by rw [h]; unfold checkV; by_cases h0 : 0 ≤ n <;> simp [h0, fitsFrom], hb⟩
theorem check_m (w : World) : Calls Try.prog 18 #[.int .i64 (-1), .slice none 0 0] w fun e w' => e = .returned (.int .i64 2) ∧ Below w.heap.size w w' :=
  (check_any (-1) none 0 [] w (by decide) RowOf.nil_).mono fun e w' ⟨h, hb⟩ => ⟨by rw [h]; rfl, hb⟩
theorem check_0 (w : World) : Calls Try.prog 18 #[.int .i64 0, .slice none 0 0] w fun e w' => e = .returned (.int .i64 0) ∧ Below w.heap.size w w' :=
  (check_any 0 none 0 [] w (by decide) RowOf.nil_).mono fun e w' ⟨h, hb⟩ => ⟨by rw [h]; rfl, hb⟩
end Go.Proofs.Ytfflfbnnohlipaa
