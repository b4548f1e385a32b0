/- A part of what the claim leans on. -/
import Derived.Test.YtacdfjlncfidgaaGreatDoorTM
import Derived.Laws.EntriesVeiled
namespace Go.Proofs.YtacdfjlncfidgaaGreatDoor
open Go.RowKit
set_option linter.unusedVariables false
set_option linter.unusedSimpArgs false
set_option maxRecDepth 100000
set_option maxHeartbeats 6400000
def NodeR (T : Tree) (w : World) (e : Ending) (w' : World) : Prop := (∃ r : RN, e = .returned r.val ∧ NodeM w' w'.heap.size T r) ∧ Below w.heap.size w w'
def emptyRN (k : Int) (s : ByteArray) : RN := ⟨k, 0, 0, 0, s, none, 0, 0⟩
theorem leafM (w : World) (k : Int) (s : ByteArray) : NodeM w w.heap.size (.mk k 0 0 0 s.data.toList []) (emptyRN k s) := by
 have := NodeM.leaf w w.heap.size k 0 0 0 s.data.toList none 0
 rwa [toBA_eta] at this
theorem mName (s : ByteArray) (w : World) : Calls Tryz.prog 29 #[.string s] w (NodeR (.mk 25 0 0 0 s.data.toList []) w) := by
 have HL := Lib.hid (fun W => leafM W 25 s)
 unfold emptyRN at HL
 go_enter Tryz.func29, Tryz.ntmps29
 go_wp2_with fail
 refine bodyPost_ret (v := (⟨25, 0, 0, 0, s, none, 0, 0⟩ : RN).val) (by unfold RN.val; simp [results, Tryz.f29, go_sem]) rfl ⟨⟨⟨25, 0, 0, 0, s, none, 0, 0⟩, rfl, HL.out _⟩, ?_⟩
 exact bel_alloc (Below.refl _ _)
theorem RowOf.there {α : Type} {cs : α → List Value} {sz : Nat} {l : List α} (hs : ∀ x, (cs x).length = sz) {W : World} {arr : Array Value} {e : TypeId} {fz : Nat × Nat} {g : Nat} (hg : W.heap[g]? = some (.cells arr e fz)) (h : arr.toList = l.flatMap cs) :
  RowOf cs sz W W.heap.size (some ⟨g, 0, none⟩) l := by
 intro _
 refine ⟨g, 0, rfl, (Array.getElem?_eq_some_iff.1 hg).1, fun i x hx j u hu => ?_⟩
 have hf := flat_at hs l i x hx j u hu
 rw [cell_of_row _ _ _ _ _ _ hg, Nat.zero_add, ← Array.getElem?_toList, h]
 exact hf
def Nodes (W : World) : List Tree → List RN → Prop
 | [], [] => True
 | t :: l, r :: rs => NodeM W W.heap.size t r ∧ Nodes W l rs
 | _, _ => False
theorem Nodes.len {W : World} : ∀ {l : List Tree} {rs : List RN}, Nodes W l rs → rs.length = l.length
 | [], [], _ => rfl
 | _ :: l, _ :: rs, h => by rw [List.length_cons, List.length_cons, Nodes.len h.2]
theorem Nodes.at {W : World} : ∀ {l : List Tree} {rs : List RN}, Nodes W l rs → ∀ (i : Nat) (x : Tree) (r : RN), l[i]? = some x → rs[i]? = some r → NodeM W W.heap.size x r
 | [], [], _, i, x, r, hx, _ => by simp at hx
 | _ :: l, _ :: rs, h, 0, x, r, hx, hr => by cases hx; cases hr; exact h.1
 | _ :: l, _ :: rs, h, i + 1, x, r, hx, hr => Nodes.at h.2 i x r (by simpa using hx) (by simpa using hr)
theorem rowM {W : World} {arr : Array Value} {e : TypeId} {fz : Nat × Nat} {g : Nat} {l : List Tree} {rs : List RN} (hg : W.heap[g]? = some (.cells arr e fz)) (h : arr.toList = rs.flatMap RN.cells) (hn : Nodes W l rs) (k : Int) (n : ByteArray) (cap : Nat) (m : Nat) (hm : m = l.length) :
  NodeM W W.heap.size (.mk k 0 0 0 n.data.toList l) ⟨k, 0, 0, 0, n, some ⟨g, 0, none⟩, m, cap⟩ := by
 subst hm
 have := NodeM.mk (w := W) (B := W.heap.size) k 0 0 0 n.data.toList l (some ⟨g, 0, none⟩) cap rs (RowOf.there RN.len hg h) hn.len hn.at
 rwa [toBA_eta] at this
theorem mBack (t : Tree) (r : RN) (w : World) (hm : NodeM w w.heap.size t r) : Calls Tryz.prog 31 #[r.val] w (NodeR (.mk 19 0 0 0 [] [t]) w) := by
 have HM := Lib.hid (fun W (hb : Below w.heap.size w W) => hm.after (Nat.le_refl _) hb)
 clear hm
 unfold RN.val
 go_enter Tryz.func31, Tryz.ntmps31
 go_wp2_with fail
 refine bodyPost_ret (v := (⟨19, 0, 0, 0, ⟨#[]⟩, some ⟨w.heap.size + 1 + 1, 0, none⟩, 1, 1⟩ : RN).val) (by unfold RN.val; simp [results, Tryz.f31, go_sem]; done) rfl ⟨⟨⟨19, 0, 0, 0, ⟨#[]⟩, some ⟨w.heap.size + 1 + 1, 0, none⟩, 1, 1⟩, rfl, rowM (rs := [r]) (l := [t]) (new_at (by simp)) (by simp [RN.cells]) ⟨HM.out _ ?_, trivial⟩ 19 ⟨#[]⟩ 1 1 rfl⟩, ?_⟩
 all_goals repeat (first | exact Below.refl _ _ | apply bel_alloc)
theorem mParen (t : Tree) (r : RN) (w : World) (hm : NodeM w w.heap.size t r) : Calls Tryz.prog 41 #[r.val] w (NodeR (.mk 33 0 0 0 [] [t]) w) := by
 have HM := Lib.hid (fun W (hb : Below w.heap.size w W) => hm.after (Nat.le_refl _) hb)
 clear hm
 unfold RN.val
 go_enter Tryz.func41, Tryz.ntmps41
 go_wp2_with fail
 refine bodyPost_ret (v := (⟨33, 0, 0, 0, ⟨#[]⟩, some ⟨w.heap.size + 1 + 1, 0, none⟩, 1, 1⟩ : RN).val) (by unfold RN.val; simp [results, Tryz.f41, go_sem]; done) rfl ⟨⟨⟨33, 0, 0, 0, ⟨#[]⟩, some ⟨w.heap.size + 1 + 1, 0, none⟩, 1, 1⟩, rfl, rowM (rs := [r]) (l := [t]) (new_at (by simp)) (by simp [RN.cells]) ⟨HM.out _ ?_, trivial⟩ 33 ⟨#[]⟩ 1 1 rfl⟩, ?_⟩
 all_goals repeat (first | exact Below.refl _ _ | apply bel_alloc)
theorem mSel (t : Tree) (r : RN) (s : ByteArray) (w : World) (hm : NodeM w w.heap.size t r) : Calls Tryz.prog 40 #[r.val, .string s] w (NodeR (.mk 26 0 0 0 s.data.toList [t]) w) := by
 have HM := Lib.hid (fun W (hb : Below w.heap.size w W) => hm.after (Nat.le_refl _) hb)
 clear hm
 unfold RN.val
 go_enter Tryz.func40, Tryz.ntmps40
 go_wp2_with fail
 refine bodyPost_ret (v := (⟨26, 0, 0, 0, s, some ⟨w.heap.size + 1 + 1, 0, none⟩, 1, 1⟩ : RN).val) (by unfold RN.val; simp [results, Tryz.f40, go_sem]; done) rfl ⟨⟨⟨26, 0, 0, 0, s, some ⟨w.heap.size + 1 + 1, 0, none⟩, 1, 1⟩, rfl, rowM (rs := [r]) (l := [t]) (new_at (by simp)) (by simp [RN.cells]) ⟨HM.out _ ?_, trivial⟩ 26 s 1 1 rfl⟩, ?_⟩
 all_goals repeat (first | exact Below.refl _ _ | apply bel_alloc)
theorem mTwo (s : ByteArray) (a b : Tree) (ra rb : RN) (w : World) (ha : NodeM w w.heap.size a ra) (hb : NodeM w w.heap.size b rb) : Calls Tryz.prog 32 #[.string s, ra.val, rb.val] w (NodeR (.mk 31 0 0 0 s.data.toList [a, b]) w) := by
 have HM := Lib.hid (fun W (h : Below w.heap.size w W) => And.intro (ha.after (Nat.le_refl _) h) (hb.after (Nat.le_refl _) h))
 clear ha hb
 unfold RN.val
 go_enter Tryz.func32, Tryz.ntmps32
 go_wp2_with fail
 refine bodyPost_ret (v := (⟨31, 0, 0, 0, s, some ⟨w.heap.size + 1 + 1 + 1, 0, none⟩, 2, 2⟩ : RN).val) (by unfold RN.val; simp [results, Tryz.f32, go_sem]; done) rfl ⟨⟨⟨31, 0, 0, 0, s, some ⟨w.heap.size + 1 + 1 + 1, 0, none⟩, 2, 2⟩, rfl, rowM (rs := [ra, rb]) (l := [a, b]) (new_at (by simp)) (by simp [RN.cells]) ⟨(HM.out _ ?_).1, (HM.out _ ?_).2, trivial⟩ 31 s 2 2 rfl⟩, ?_⟩
 all_goals repeat (first | exact Below.refl _ _ | apply bel_alloc)
theorem mLit (w : World) : Calls Tryz.prog 36 #[] w (NodeR litT w) := by
 go_enter Tryz.func36, Tryz.ntmps36
 go_wp2_with fail
 refine bodyPost_ret (v := (⟨28, 0, 0, 0, ⟨#[]⟩, some ⟨w.heap.size + 1, 0, none⟩, 1, 1⟩ : RN).val) (by unfold RN.val; simp [results, Tryz.f36, go_sem]; done) rfl ⟨⟨⟨28, 0, 0, 0, ⟨#[]⟩, some ⟨w.heap.size + 1, 0, none⟩, 1, 1⟩, rfl, rowM (rs := [⟨8, 0, 0, 0, ⟨#[84]⟩, none, 0, 0⟩]) (l := [.mk 8 0 0 0 [84] []]) (new_at (by simp)) (by simp [RN.cells]) ⟨leafM _ 8 ⟨#[84]⟩, trivial⟩ 28 ⟨#[]⟩ 1 1 rfl⟩, ?_⟩
 all_goals repeat (first | exact Below.refl _ _ | apply bel_alloc)
theorem mBlock (A : Option Addr) (n c : Nat) (w : World) : Calls Tryz.prog 51 #[.slice A n c] w fun e w' => e = .returned (⟨10, 0, 0, 0, ⟨#[]⟩, A, n, c⟩ : RN).val ∧ Below w.heap.size w w' := by
 go_enter Tryz.func51, Tryz.ntmps51
 go_wp2_with fail
 refine bodyPost_ret (v := (⟨10, 0, 0, 0, ⟨#[]⟩, A, n, c⟩ : RN).val) (by unfold RN.val; simp [results, Tryz.f51, go_sem]; done) rfl ⟨rfl, ?_⟩
 all_goals repeat (first | exact Below.refl _ _ | apply bel_alloc)
theorem six_set {w : World} {b : Nat} {x0 x1 x2 x3 x4 x5 y0 y1 y2 y3 y4 y5 : Value} {T : TypeId} (h : w.heap[b]? = some (.cells #[y0, y1, y2, y3, y4, y5] T (0, 0))) :
  ((((((w.setCell ⟨b, 0, none⟩ x0).setCell ⟨b, 1, none⟩ x1).setCell ⟨b, 2, none⟩ x2).setCell ⟨b, 3, none⟩ x3).setCell ⟨b, 4, none⟩ x4).setCell ⟨b, 5, none⟩ x5).heap[b]? = some (.cells #[x0, x1, x2, x3, x4, x5] T (0, 0)) := by
 rw [set_heap (set_heap (set_heap (set_heap (set_heap (set_heap h)))))]
 rfl
theorem six_other {w : World} {b k : Nat} {x0 x1 x2 x3 x4 x5 : Value} (h : k ≠ b) : ((((((w.setCell ⟨b, 0, none⟩ x0).setCell ⟨b, 1, none⟩ x1).setCell ⟨b, 2, none⟩ x2).setCell ⟨b, 3, none⟩ x3).setCell ⟨b, 4, none⟩ x4).setCell ⟨b, 5, none⟩ x5).heap[k]? = w.heap[k]? := by
 rw [set_other h, set_other h, set_other h, set_other h, set_other h, set_other h]
theorem six_below {w0 w : World} {B b : Nat} {x0 x1 x2 x3 x4 x5 : Value} (h : Below B w0 w) (hb : B ≤ b) : Below B w0 ((((((w.setCell ⟨b, 0, none⟩ x0).setCell ⟨b, 1, none⟩ x1).setCell ⟨b, 2, none⟩ x2).setCell ⟨b, 3, none⟩ x3).setCell ⟨b, 4, none⟩ x4).setCell ⟨b, 5, none⟩ x5) :=
 (((((h.setCell (p := ⟨b, 0, none⟩) hb _).setCell (p := ⟨b, 1, none⟩) hb _).setCell (p := ⟨b, 2, none⟩) hb _).setCell (p := ⟨b, 3, none⟩) hb _).setCell (p := ⟨b, 4, none⟩) hb _).setCell (p := ⟨b, 5, none⟩) hb _
theorem mBody (l : List Tree) (A : Option Addr) (c : Nat) (w : World) (hk : KidsM w w.heap.size A l) : Calls Tryz.prog 42 #[.slice A l.length c] w (NodeR (bodyT l) w) := by
 have HM := Lib.hid (fun W (h : Below w.heap.size w W) => (hk.after (Nat.le_refl _) h).node 10 0 0 0 [] c)
 have HX := Lib.hid (heap_alloc_new w (.cells #[.int .i64 0, .int .i64 0, .int .i64 0, .int .i64 0, .string ⟨#[]⟩, .slice none 0 0] 24))
 have HB := Lib.hid (bel_alloc (o := .cells #[.int .i64 0, .int .i64 0, .int .i64 0, .int .i64 0, .string ⟨#[]⟩, .slice none 0 0] 24) (Below.refl w.heap.size w))
 generalize hn : l.length = n at *
 clear hk hn
 go_enter Tryz.func42, Tryz.ntmps42
 go_wp2_with (go_at_call 51; refine (mBlock _ _ _ _).mono ?_; rintro e wA ⟨rfl, hbA⟩; unfold RN.val; obtain ⟨W3, hW3⟩ : ∃ W3, ((wA.alloc (.cells #[.int .i64 0, .int .i64 0, .int .i64 0, .int .i64 0, .string ⟨#[]⟩, .slice none 0 0, .int .i64 6, .int .i64 0, .int .i64 0, .int .i64 0, .string ⟨#[]⟩, .slice none 0 0, .int .i64 0, .int .i64 0, .int .i64 0, .int .i64 0, .string ⟨#[]⟩, .slice none 0 0, .int .i64 10, .int .i64 0, .int .i64 0, .int .i64 0, .string ⟨#[]⟩, .slice A n c] 24)).alloc (.cells #[.int .i64 5, .int .i64 0, .int .i64 0, .int .i64 0, .string ⟨#[102]⟩, .slice (some ⟨wA.heap.size, 0, none⟩) 4 4] 24)).alloc (.cells #[.int .i64 5, .int .i64 0, .int .i64 0, .int .i64 0, .string ⟨#[102]⟩, .slice (some ⟨wA.heap.size, 0, none⟩) 4 4] 24) = W3 := ⟨_, rfl⟩; have H3 := Lib.hid (nb_alloc (o' := .cells #[.int .i64 5, .int .i64 0, .int .i64 0, .int .i64 0, .string ⟨#[102]⟩, .slice (some ⟨wA.heap.size, 0, none⟩) 4 4] 24) (nb_alloc (o' := .cells #[.int .i64 5, .int .i64 0, .int .i64 0, .int .i64 0, .string ⟨#[102]⟩, .slice (some ⟨wA.heap.size, 0, none⟩) 4 4] 24) (nb_alloc (o' := .cells #[.int .i64 0, .int .i64 0, .int .i64 0, .int .i64 0, .string ⟨#[]⟩, .slice none 0 0, .int .i64 6, .int .i64 0, .int .i64 0, .int .i64 0, .string ⟨#[]⟩, .slice none 0 0, .int .i64 0, .int .i64 0, .int .i64 0, .int .i64 0, .string ⟨#[]⟩, .slice none 0 0, .int .i64 10, .int .i64 0, .int .i64 0, .int .i64 0, .string ⟨#[]⟩, .slice A n c] 24) (nb_below HX.out hbA)))); have HR := Lib.hid (nb_alloc (o' := .cells #[.int .i64 5, .int .i64 0, .int .i64 0, .int .i64 0, .string ⟨#[102]⟩, .slice (some ⟨wA.heap.size, 0, none⟩) 4 4] 24) (nb_alloc (o' := .cells #[.int .i64 5, .int .i64 0, .int .i64 0, .int .i64 0, .string ⟨#[102]⟩, .slice (some ⟨wA.heap.size, 0, none⟩) 4 4] 24) (heap_alloc_new wA (.cells #[.int .i64 0, .int .i64 0, .int .i64 0, .int .i64 0, .string ⟨#[]⟩, .slice none 0 0, .int .i64 6, .int .i64 0, .int .i64 0, .int .i64 0, .string ⟨#[]⟩, .slice none 0 0, .int .i64 0, .int .i64 0, .int .i64 0, .int .i64 0, .string ⟨#[]⟩, .slice none 0 0, .int .i64 10, .int .i64 0, .int .i64 0, .int .i64 0, .string ⟨#[]⟩, .slice A n c] 24)))); have HR1 := Lib.hid (new_at (w := (wA.alloc (.cells #[.int .i64 0, .int .i64 0, .int .i64 0, .int .i64 0, .string ⟨#[]⟩, .slice none 0 0, .int .i64 6, .int .i64 0, .int .i64 0, .int .i64 0, .string ⟨#[]⟩, .slice none 0 0, .int .i64 0, .int .i64 0, .int .i64 0, .int .i64 0, .string ⟨#[]⟩, .slice none 0 0, .int .i64 10, .int .i64 0, .int .i64 0, .int .i64 0, .string ⟨#[]⟩, .slice A n c] 24)).alloc (.cells #[.int .i64 5, .int .i64 0, .int .i64 0, .int .i64 0, .string ⟨#[102]⟩, .slice (some ⟨wA.heap.size, 0, none⟩) 4 4] 24)) (o := .cells #[.int .i64 5, .int .i64 0, .int .i64 0, .int .i64 0, .string ⟨#[102]⟩, .slice (some ⟨wA.heap.size, 0, none⟩) 4 4] 24) (g := wA.heap.size + 1 + 1) (by simp)); rw [hW3] at H3 HR HR1; have HB3 := Lib.hid (show Below w.heap.size w W3 by rw [← hW3]; exact bel_alloc (bel_alloc (bel_alloc (below_then HB.out hbA)))); have HS := Lib.hid hbA.size; obtain ⟨e0, e1, e2, e3, e4, e5, ez, el⟩ := ncells H3.out; clear hbA)
 have hne1 : wA.heap.size + 1 + 1 ≠ w.heap.size := by have h1 := HS.out; rw [World.size_alloc] at h1; omega
 have hne2 : wA.heap.size ≠ w.heap.size := by have h1 := HS.out; rw [World.size_alloc] at h1; omega
 refine bodyPost_ret (v := (⟨1, 0, 0, 0, ⟨#[112]⟩, some ⟨wA.heap.size + 1 + 1, 0, none⟩, 1, 1⟩ : RN).val) (results_cell_row (p := 2) rfl _ _ w.heap.size 24 _ (0, 0) _ rfl (six_set H3.out) Tryz.underlying24 rfl (by kernel_rfl)) rfl ⟨⟨_, rfl, ?_⟩, six_below HB3.out (Nat.le_refl _)⟩
 generalize hW4 : (((((W3.setCell ⟨w.heap.size, 0, none⟩ (.int .i64 1)).setCell ⟨w.heap.size, 1, none⟩ (.int .i64 0)).setCell ⟨w.heap.size, 2, none⟩ (.int .i64 0)).setCell ⟨w.heap.size, 3, none⟩ (.int .i64 0)).setCell ⟨w.heap.size, 4, none⟩ (.string ⟨#[112]⟩)).setCell ⟨w.heap.size, 5, none⟩ (.slice (some ⟨wA.heap.size + 1 + 1, 0, none⟩) 1 1) = W4
 have hB4 : Below w.heap.size w W4 := by rw [← hW4]; exact six_below HB3.out (Nat.le_refl _)
 have h1 := (six_other (x0 := .int .i64 1) (x1 := .int .i64 0) (x2 := .int .i64 0) (x3 := .int .i64 0) (x4 := .string ⟨#[112]⟩) (x5 := .slice (some ⟨wA.heap.size + 1 + 1, 0, none⟩) 1 1) (w := W3) hne1).trans HR1.out
 have h2 := (six_other (x0 := .int .i64 1) (x1 := .int .i64 0) (x2 := .int .i64 0) (x3 := .int .i64 0) (x4 := .string ⟨#[112]⟩) (x5 := .slice (some ⟨wA.heap.size + 1 + 1, 0, none⟩) 1 1) (w := W3) hne2).trans HR.out
 rw [hW4] at h1 h2
 exact rowM (rs := [⟨5, 0, 0, 0, ⟨#[102]⟩, some ⟨wA.heap.size, 0, none⟩, 4, 4⟩]) (l := [.mk 5 0 0 0 [102] [noneT, .mk 6 0 0 0 [] [], noneT, blockT l]]) h1 (by simp [RN.cells])
  ⟨rowM (rs := [emptyRN 0 ⟨#[]⟩, emptyRN 6 ⟨#[]⟩, emptyRN 0 ⟨#[]⟩, ⟨10, 0, 0, 0, toBA [], A, n, c⟩]) (l := [noneT, .mk 6 0 0 0 [] [], noneT, blockT l]) h2 (by simp [RN.cells, emptyRN, toBA]) ⟨leafM _ 0 ⟨#[]⟩, leafM _ 6 ⟨#[]⟩, leafM _ 0 ⟨#[]⟩, HM.out _ hB4, trivial⟩ 5 ⟨#[102]⟩ 4 4 rfl, trivial⟩ 1 ⟨#[112]⟩ 1 1 rfl
theorem box_keepW {w w1 W' : World} {b : Nat} {r : RN} (h0 : Below w.heap.size w w1) (hx : w1.heap[b]? = some (boxC r)) (hb : Below w1.heap.size w1 W') :
  Below w.heap.size w W' ∧ W'.cell? ⟨b, 0, none⟩ = some (.int .i64 r.kind) ∧ W'.cell? ⟨b, 1, none⟩ = some (.int .i64 r.fr) ∧ W'.cell? ⟨b, 2, none⟩ = some (.int .i64 r.en) ∧ W'.cell? ⟨b, 3, none⟩ = some (.int .i64 r.at_) ∧ W'.cell? ⟨b, 4, none⟩ = some (.string r.name) ∧ W'.cell? ⟨b, 5, none⟩ = some (.slice r.A r.n r.cap) :=
 ⟨below_then h0 hb, (box_keep hx hb).2⟩
theorem box_keepH {w W' : World} {b : Nat} {r : RN} (h0 : Below w.heap.size w W') (hx : W'.heap[b]? = some (boxC r)) :
  Below w.heap.size w W' ∧ W'.cell? ⟨b, 0, none⟩ = some (.int .i64 r.kind) ∧ W'.cell? ⟨b, 1, none⟩ = some (.int .i64 r.fr) ∧ W'.cell? ⟨b, 2, none⟩ = some (.int .i64 r.en) ∧ W'.cell? ⟨b, 3, none⟩ = some (.int .i64 r.at_) ∧ W'.cell? ⟨b, 4, none⟩ = some (.string r.name) ∧ W'.cell? ⟨b, 5, none⟩ = some (.slice r.A r.n r.cap) :=
 ⟨h0, (box_keep hx (Below.refl _ _)).2⟩
theorem mBranch (t : Tree) (r : RN) (w : World) (hm : NodeM w w.heap.size t r) : Calls Tryz.prog 34 #[r.val] w (NodeR (branchT t) w) := by
 have HM := Lib.hid (fun W (hb : Below w.heap.size w W) => hm.after (Nat.le_refl _) hb)
 have HX := Lib.hid (nb_alloc (o' := .cells #[.int .i64 0, .int .i64 0, .int .i64 0, .int .i64 0, .string ⟨#[]⟩, .slice none 0 0] 24) (heap_alloc_new w (boxC r)))
 have HZ := Lib.hid (new_at (w := w.alloc (boxC r)) (o := .cells #[.int .i64 0, .int .i64 0, .int .i64 0, .int .i64 0, .string ⟨#[]⟩, .slice none 0 0] 24) (g := w.heap.size + 1) (by simp))
 have HB := Lib.hid (bel_alloc (o := .cells #[.int .i64 0, .int .i64 0, .int .i64 0, .int .i64 0, .string ⟨#[]⟩, .slice none 0 0] 24) (bel_alloc (o := boxC r) (Below.refl w.heap.size w)))
 have hsz : ((w.alloc (boxC r)).alloc (.cells #[.int .i64 0, .int .i64 0, .int .i64 0, .int .i64 0, .string ⟨#[]⟩, .slice none 0 0] 24)).heap.size = w.heap.size + 2 := by simp [World.size_alloc]
 obtain ⟨W1, hW1⟩ : ∃ W1, (w.alloc (boxC r)).alloc (.cells #[.int .i64 0, .int .i64 0, .int .i64 0, .int .i64 0, .string ⟨#[]⟩, .slice none 0 0] 24) = W1 := ⟨_, rfl⟩
 rw [hW1] at HX HZ HB hsz
 replace hsz := Lib.hid hsz
 clear hm
 unfold RN.val
 unfold boxC at hW1
 go_enter Tryz.func34, Tryz.ntmps34
 go_wp2_with fail
 have HKP := Lib.hid (fun W' (hBW : Below W1.heap.size W1 W') => (show zS w w.heap.size r W' from by exact box_keepW HB.out HX.out hBW))
 refine zHD HKP fun hHeld => ?_
 refine zTk 0 (h := ?_)
 refine zTk 2 (h := ?_)
 refine zRd 1 (h := fun KK hKK => ?_)
 go_simp
 (refine (mBlock _ _ _ _).mono ?_; rintro e wA ⟨rfl, hbA'⟩; dsimp only [RN.val]; have hbA : Below W1.heap.size W1 wA := (by first | exact hbA' | exact below_then (bel_drew (Below.refl _ _)) hbA'); clear hbA'; have HS := Lib.hid hbA.size; obtain ⟨W3, hW3⟩ : ∃ W3, wA.alloc (.cells #[.int .i64 r.kind, .int .i64 r.fr, .int .i64 r.en, .int .i64 r.at_, .string r.name, .slice r.A r.n r.cap, .int .i64 10, .int .i64 0, .int .i64 0, .int .i64 0, .string ⟨#[]⟩, .slice none 0 0, .int .i64 0, .int .i64 0, .int .i64 0, .int .i64 0, .string ⟨#[]⟩, .slice none 0 0] 24) = W3 := ⟨_, rfl⟩; have H3 := Lib.hid (nb_alloc (o' := .cells #[.int .i64 r.kind, .int .i64 r.fr, .int .i64 r.en, .int .i64 r.at_, .string r.name, .slice r.A r.n r.cap, .int .i64 10, .int .i64 0, .int .i64 0, .int .i64 0, .string ⟨#[]⟩, .slice none 0 0, .int .i64 0, .int .i64 0, .int .i64 0, .int .i64 0, .string ⟨#[]⟩, .slice none 0 0] 24) (nb_below HZ.out hbA)); have HR := Lib.hid (heap_alloc_new wA (.cells #[.int .i64 r.kind, .int .i64 r.fr, .int .i64 r.en, .int .i64 r.at_, .string r.name, .slice r.A r.n r.cap, .int .i64 10, .int .i64 0, .int .i64 0, .int .i64 0, .string ⟨#[]⟩, .slice none 0 0, .int .i64 0, .int .i64 0, .int .i64 0, .int .i64 0, .string ⟨#[]⟩, .slice none 0 0] 24)); have HX3 := Lib.hid (nb_alloc (o' := .cells #[.int .i64 r.kind, .int .i64 r.fr, .int .i64 r.en, .int .i64 r.at_, .string r.name, .slice r.A r.n r.cap, .int .i64 10, .int .i64 0, .int .i64 0, .int .i64 0, .string ⟨#[]⟩, .slice none 0 0, .int .i64 0, .int .i64 0, .int .i64 0, .int .i64 0, .string ⟨#[]⟩, .slice none 0 0] 24) (nb_below HX.out hbA)); have hb3 : Below W1.heap.size W1 W3 := (by rw [← hW3]; exact bel_alloc hbA); rw [hW3] at H3 HR HX3; obtain ⟨z0, z1, z2, z3, z4, z5, zz, zl⟩ := ncells H3.out; obtain ⟨W4, hW4⟩ : ∃ W4, (((((W3.setCell ⟨w.heap.size + 1, 0, none⟩ (.int .i64 14)).setCell ⟨w.heap.size + 1, 1, none⟩ (.int .i64 0)).setCell ⟨w.heap.size + 1, 2, none⟩ (.int .i64 0)).setCell ⟨w.heap.size + 1, 3, none⟩ (.int .i64 0)).setCell ⟨w.heap.size + 1, 4, none⟩ (.string ⟨#[]⟩)).setCell ⟨w.heap.size + 1, 5, none⟩ (.slice (some ⟨wA.heap.size, 0, none⟩) 3 3) = W4 := ⟨_, rfl⟩; have HB4 := Lib.hid (show Below w.heap.size w W4 by rw [← hW4]; exact six_below (below_then HB.out hb3) (by omega)); have HX4 := Lib.hid (show W4.heap[w.heap.size]? = some (boxC r) by rw [← hW4, six_other (by omega)]; exact HX3.out); have HZ4 := Lib.hid (show W4.heap[w.heap.size + 1]? = some (.cells #[.int .i64 14, .int .i64 0, .int .i64 0, .int .i64 0, .string ⟨#[]⟩, .slice (some ⟨wA.heap.size, 0, none⟩) 3 3] 24 (0, 0)) by rw [← hW4]; exact six_set H3.out); have HR4 := Lib.hid (show W4.heap[wA.heap.size]? = some (.cells #[.int .i64 r.kind, .int .i64 r.fr, .int .i64 r.en, .int .i64 r.at_, .string r.name, .slice r.A r.n r.cap, .int .i64 10, .int .i64 0, .int .i64 0, .int .i64 0, .string ⟨#[]⟩, .slice none 0 0, .int .i64 0, .int .i64 0, .int .i64 0, .int .i64 0, .string ⟨#[]⟩, .slice none 0 0] 24) by rw [← hW4, six_other (by have h1 := HS.out; have h2 := hsz.out; omega)]; exact HR.out))
 (try go_wp2_with fail)
 refine hKK.out _ _ (by first | exact box_keepH HB4.out HX4.out | exact (zb HKP)) (fun hHeld2 => ?_); clear hKK KK hHeld; rename _ => hHeld
 (try simp only [Act.put, zSa, zSb, zSc])
 refine zRd 3 (h := fun KK hKK => ?_)
 go_simp
 refine hKK.out _ _ (by first | exact box_keepH HB4.out HX4.out | exact (zb HKP)) (fun hHeld2 => ?_); clear hKK KK hHeld; rename _ => hHeld
 (try simp only [Act.put, zSa, zSb, zSc])
 refine zTk 4 (h := ?_)
 refine zRd 5 (h := fun KK hKK => ?_)
 go_simp
 refine hKK.out _ _ (by first | exact box_keepH HB4.out HX4.out | exact (zb HKP)) (fun hHeld2 => ?_); clear hKK KK hHeld; rename _ => hHeld
 (try simp only [Act.put, zSa, zSb, zSc])
 refine wpAnyH_done (by kernel_rfl) ?_ _
 go_wp2_with fail
 refine bodyPost_ret (v := (⟨14, 0, 0, 0, ⟨#[]⟩, some ⟨wA.heap.size, 0, none⟩, 3, 3⟩ : RN).val) (results_cell_row (p := 2) rfl _ _ (w.heap.size + 1) 24 _ (0, 0) _ rfl (by first | (rw [hW4]; exact HZ4.out) | exact HZ4.out) Tryz.underlying24 rfl (by kernel_rfl)) rfl ⟨⟨_, rfl, ?_⟩, by first | (rw [hW4]; exact HB4.out) | exact HB4.out⟩
 try rw [hW4]
 exact rowM (rs := [r, emptyRN 10 ⟨#[]⟩, emptyRN 0 ⟨#[]⟩]) (l := [t, blockT [], noneT]) HR4.out (by simp [RN.cells, emptyRN]) ⟨HM.out _ HB4.out, leafM _ 10 ⟨#[]⟩, leafM _ 0 ⟨#[]⟩, trivial⟩ 14 ⟨#[]⟩ 3 3 rfl
theorem aFew (t : Tree) (r : RN) (w : World) (hm : NodeM w w.heap.size t r) (hf : fineT t) : Calls Tryz.prog 11 #[r.val] w fun e w' => e = .returned (.bool (decide (0 < sizeV 3000 t))) ∧ Below w.heap.size w w' := by
 have HT := Lib.hid (rSize t r (w.alloc (boxC r)) 3000 (hm.boxed (Nat.le_refl _) _) hf (by omega) (Int.le_refl _))
 have HB := Lib.hid (bel_alloc (o := boxC r) (Below.refl w.heap.size w))
 generalize sizeV 3000 t = d at *
 clear hm hf
 unfold RN.val at HT ⊢
 by_cases hd : 0 < d
 · have p2 : decide (0 < d) = true := decide_eq_true hd
   rw [p2]
   go_enter Tryz.func11, Tryz.ntmps11
   go_wp2_with (go_at_call 39; refine HT.out.mono ?_; rintro e wA ⟨rfl, hbA⟩)
   go_ret
   exact ⟨ret_bool (by simp [*]), below_then HB.out hbA⟩
 · have p2 : decide (0 < d) = false := decide_eq_false hd
   rw [p2]
   go_enter Tryz.func11, Tryz.ntmps11
   go_wp2_with (go_at_call 39; refine HT.out.mono ?_; rintro e wA ⟨rfl, hbA⟩)
   go_ret
   exact ⟨ret_bool (by simp [*]), below_then HB.out hbA⟩
theorem NodeR.below {T : Tree} {w : World} {e : Ending} {w' : World} (h : NodeR T w e w') : Below w.heap.size w w' := h.2
theorem aMay (t : Tree) (r : RN) (w : World) (hG : LexG w) (hm : NodeM w w.heap.size t r) (hc : costT (bodyT [t]) ≤ 3000) :
  Calls Tryz.prog 30 #[r.val] w fun e w' => e = .returned (.bool (decide (checkV nameV tokT (bodyT [t]) = 0))) ∧ Below w.heap.size w w' := by
 have hG0 := (hG.alloc (boxC r)).alloc (boxC r)
 have hrow := new_at (w := w.alloc (boxC r)) (o := boxC r) (g := w.heap.size + 1) (by simp)
 have hm2 := hm.boxed2 (boxC r) (boxC r)
 have HB := Lib.hid (below2 w (boxC r) (boxC r))
 have HT := Lib.hid (mBody [t] (some ⟨w.heap.size + 1, 0, none⟩) 1 ((w.alloc (boxC r)).alloc (boxC r)) ⟨[r], RowOf.there RN.len hrow (by simp [RN.cells]), rfl, fun i x ry hx hr => by
  cases i with
  | zero => cases hx; cases hr; exact hm2
  | succ i => simp at hx⟩)
 obtain ⟨W0, hW0⟩ : ∃ W0, (w.alloc (boxC r)).alloc (boxC r) = W0 := ⟨_, rfl⟩
 rw [hW0] at hG0 HB HT
 have HC := Lib.hid (fun W (hb : Below W0.heap.size W0 W) rb (hm : NodeM W W.heap.size (bodyT [t]) rb) => aCheck (bodyT [t]) rb W (hG0.below hb) hm hc)
 generalize checkV nameV tokT (bodyT [t]) = C at *
 clear hm hG hc hrow hm2 hG0
 unfold RN.val at HC ⊢
 unfold boxC at hW0
 by_cases hd : C = 0
 · subst hd
   go_enter Tryz.func30, Tryz.ntmps30
   go_wp2_with (first | (go_at_call 42; refine HT.out.mono ?_; rintro e wA ⟨⟨rb, rfl, hmb⟩, hbA⟩; unfold RN.val) | (go_at_call 13; refine (HC.out _ hbA _ hmb).mono ?_; rintro e wB ⟨rfl, hbB⟩))
   go_ret
   exact ⟨ret_bool (by simp), below_then HB.out (below_then hbA hbB)⟩
 · have p2 : decide (C = 0) = false := decide_eq_false hd
   have p3 : (C == 0) = false := by simp [hd]
   rw [p2]
   clear hd
   go_enter Tryz.func30, Tryz.ntmps30
   go_wp2_with (first | (go_at_call 42; refine HT.out.mono ?_; rintro e wA ⟨⟨rb, rfl, hmb⟩, hbA⟩; unfold RN.val) | (go_at_call 13; refine (HC.out _ hbA _ hmb).mono ?_; rintro e wB ⟨rfl, hbB⟩))
   go_ret
   exact ⟨ret_bool (by simp [*]), below_then HB.out (below_then hbA hbB)⟩
theorem aNo (t : Tree) (r : RN) (w : World) (hG : LexG w) (hm : NodeM w w.heap.size t r) (hc : costT (bodyT [t]) ≤ 3000) :
  Calls Tryz.prog 33 #[r.val] w fun e w' => e = .returned (.bool (decide (checkV nameV tokT (bodyT [t]) = 4))) ∧ Below w.heap.size w w' := by
 have hG0 := (hG.alloc (boxC r)).alloc (boxC r)
 have hrow := new_at (w := w.alloc (boxC r)) (o := boxC r) (g := w.heap.size + 1) (by simp)
 have hm2 := hm.boxed2 (boxC r) (boxC r)
 have HB := Lib.hid (below2 w (boxC r) (boxC r))
 have HT := Lib.hid (mBody [t] (some ⟨w.heap.size + 1, 0, none⟩) 1 ((w.alloc (boxC r)).alloc (boxC r)) ⟨[r], RowOf.there RN.len hrow (by simp [RN.cells]), rfl, fun i x ry hx hr => by
  cases i with
  | zero => cases hx; cases hr; exact hm2
  | succ i => simp at hx⟩)
 obtain ⟨W0, hW0⟩ : ∃ W0, (w.alloc (boxC r)).alloc (boxC r) = W0 := ⟨_, rfl⟩
 rw [hW0] at hG0 HB HT
 have HC := Lib.hid (fun W (hb : Below W0.heap.size W0 W) rb (hm : NodeM W W.heap.size (bodyT [t]) rb) => aCheck (bodyT [t]) rb W (hG0.below hb) hm hc)
 generalize checkV nameV tokT (bodyT [t]) = C at *
 clear hm hG hc hrow hm2 hG0
 unfold RN.val at HC ⊢
 unfold boxC at hW0
 by_cases hd : C = 4
 · subst hd
   go_enter Tryz.func33, Tryz.ntmps33
   go_wp2_with (first | (go_at_call 42; refine HT.out.mono ?_; rintro e wA ⟨⟨rb, rfl, hmb⟩, hbA⟩; unfold RN.val) | (go_at_call 13; refine (HC.out _ hbA _ hmb).mono ?_; rintro e wB ⟨rfl, hbB⟩))
   go_ret
   exact ⟨ret_bool (by simp), below_then HB.out (below_then hbA hbB)⟩
 · have p2 : decide (C = 4) = false := decide_eq_false hd
   have p3 : (C == 4) = false := by simp [hd]
   rw [p2]
   clear hd
   go_enter Tryz.func33, Tryz.ntmps33
   go_wp2_with (first | (go_at_call 42; refine HT.out.mono ?_; rintro e wA ⟨⟨rb, rfl, hmb⟩, hbA⟩; unfold RN.val) | (go_at_call 13; refine (HC.out _ hbA _ hmb).mono ?_; rintro e wB ⟨rfl, hbB⟩))
   go_ret
   exact ⟨ret_bool (by simp [*]), below_then HB.out (below_then hbA hbB)⟩
theorem nm_x : nameV [120] = true := by decide +kernel
theorem nm_p : nameV [112] = true := by decide +kernel
theorem nm_f : nameV [102] = true := by decide +kernel
theorem nm_a : nameV [97] = true := by decide +kernel
theorem nm_T : nameV [84] = true := by decide +kernel
theorem mayYes {W0 : World} (hG0 : LexG W0) {t : Tree} (hc : costT (bodyT [t]) ≤ 3000) (hv : checkV nameV tokT (bodyT [t]) = 0) (W : World) (hb : Below W0.heap.size W0 W) (r : RN) (hm : NodeM W W.heap.size t r) :
  Calls Tryz.prog 30 #[r.val] W fun e w' => e = .returned (.bool true) ∧ Below W.heap.size W w' := by
 have h := aMay t r W (hG0.below hb) hm hc
 rw [hv] at h
 exact h
theorem noYes {W0 : World} (hG0 : LexG W0) {t : Tree} (hc : costT (bodyT [t]) ≤ 3000) (hv : checkV nameV tokT (bodyT [t]) = 4) (W : World) (hb : Below W0.heap.size W0 W) (r : RN) (hm : NodeM W W.heap.size t r) :
  Calls Tryz.prog 33 #[r.val] W fun e w' => e = .returned (.bool true) ∧ Below W.heap.size W w' := by
 have h := aNo t r W (hG0.below hb) hm hc
 rw [hv] at h
 exact h
theorem aWorks (w : World) (hG : LexG w) : Calls Tryz.prog 12 #[] w fun e w' => e = .returned (.bool true) ∧ Below w.heap.size w w' := by
 have HG := Lib.hid hG
 clear hG
 go_enter Tryz.func12, Tryz.ntmps12
 go_wp2_with (go_at_call 29; refine (mName _ _).mono ?_; rintro e wA ⟨⟨r, rfl, hm⟩, hbA⟩; unfold RN.val)
 obtain ⟨W0, hW0⟩ : ∃ W0, wA.alloc (boxC r) = W0 := ⟨_, rfl⟩
 have HX := Lib.hid (heap_alloc_new wA (boxC r))
 have HB := Lib.hid (bel_alloc (o := boxC r) (Below.refl wA.heap.size wA))
 have hm0 : NodeM W0 W0.heap.size xT r := by rw [← hW0]; exact hm.boxed (Nat.le_refl _) _
 rw [hW0] at HX HB
 have hG0 : LexG W0 := (HG.out.below hbA).below HB.out
 have HXM := Lib.hid (fun W (hb : Below W0.heap.size W0 W) => hm0.after (Nat.le_refl _) hb)
 have HW1 := Lib.hid (mayYes hG0 (by decide) (works1 nameV tokT nm_x nm_p nm_f nm_a nm_T))
 have HW2 := Lib.hid (noYes hG0 (by decide) (works2 nameV tokT nm_x nm_p nm_f nm_a nm_T))
 have HW3 := Lib.hid (noYes hG0 (by decide) (works3 nameV tokT nm_x nm_p nm_f nm_a nm_T))
 have HW4 := Lib.hid (mayYes hG0 (by decide) (works4 nameV tokT nm_x nm_p nm_f nm_a nm_T))
 clear hG0 hm0 hm
 rw [show wA.alloc (.cells #[.int .i64 r.kind, .int .i64 r.fr, .int .i64 r.en, .int .i64 r.at_, .string r.name, .slice r.A r.n r.cap] 24) = W0 from hW0]
 have HKP := Lib.hid (fun W' (hBW : Below W0.heap.size W0 W') => (show zS W0 wA.heap.size r W' from by exact box_keep HX.out hBW))
 refine zHD HKP fun hHeld => ?_
 refine zTk 0 (h := ?_)
 refine zTk 1 (h := ?_)
 refine zTk 2 (h := ?_)
 refine zRd 3 (h := fun KK hKK => ?_)
 go_simp
 (refine (mTwo ⟨#[42]⟩ xT xT r r _ (zb HXM) (zb HXM)).mono ?_; rintro e w1 ⟨⟨r1, rfl, hm1⟩, hb1⟩; unfold RN.val)
 (try go_wp2_with fail)
 refine zKK hKK HKP fun hHeld2 => ?_; clear hKK KK hHeld; rename _ => hHeld
 refine zRd 4 (h := fun KK hKK => ?_)
 go_simp
 (refine (mTwo ⟨#[43]⟩ xT (twoT [42] xT xT) r r1 _ (zb HXM) (hm1.after (Nat.le_refl _) (by repeat (first | exact zR _ | assumption | apply zA | apply zD | refine zT ?_ (by assumption))))).mono ?_; rintro e w2 ⟨⟨r2, rfl, hm2⟩, hb2⟩; unfold RN.val)
 (try go_wp2_with fail)
 refine zKK hKK HKP fun hHeld2 => ?_; clear hKK KK hHeld; rename _ => hHeld
 refine zRd 5 (h := fun KK hKK => ?_)
 go_simp
 (refine (mBack (twoT [43] xT (twoT [42] xT xT)) r2 _ (hm2.after (Nat.le_refl _) (by repeat (first | exact zR _ | assumption | apply zA | apply zD | refine zT ?_ (by assumption))))).mono ?_; rintro e w3 ⟨⟨r3, rfl, hm3⟩, hb3⟩; unfold RN.val)
 (try go_wp2_with fail)
 refine zKK hKK HKP fun hHeld2 => ?_; clear hKK KK hHeld; rename _ => hHeld
 refine zRd 6 (h := fun KK hKK => ?_)
 go_simp
 (refine ((zb HW1) r3 (hm3.after (Nat.le_refl _) (by repeat (first | exact zR _ | assumption | apply zA | apply zD | refine zT ?_ (by assumption))))).mono ?_; rintro e w4 ⟨rfl, hb4⟩)
 (try go_wp2_with fail)
 refine zKK hKK HKP fun hHeld2 => ?_; clear hKK KK hHeld; rename _ => hHeld
 refine zTk 7 (h := ?_)
 refine zTk 8 (h := ?_)
 refine zTk 9 (h := ?_)
 refine zTk 11 (h := ?_)
 refine zRd 10 (h := fun KK hKK => ?_)
 go_simp
 (refine (mTwo ⟨#[43]⟩ xT xT r r _ (zb HXM) (zb HXM)).mono ?_; rintro e w5 ⟨⟨r5, rfl, hm5⟩, hb5⟩; unfold RN.val)
 (try go_wp2_with fail)
 refine zKK hKK HKP fun hHeld2 => ?_; clear hKK KK hHeld; rename _ => hHeld
 refine zRd 12 (h := fun KK hKK => ?_)
 go_simp
 (refine (mTwo ⟨#[42]⟩ (twoT [43] xT xT) xT r5 r _ (hm5.after (Nat.le_refl _) (by repeat (first | exact zR _ | assumption | apply zA | apply zD | refine zT ?_ (by assumption)))) (zb HXM)).mono ?_; rintro e w6 ⟨⟨r6, rfl, hm6⟩, hb6⟩; unfold RN.val)
 (try go_wp2_with fail)
 refine zKK hKK HKP fun hHeld2 => ?_; clear hKK KK hHeld; rename _ => hHeld
 refine zRd 13 (h := fun KK hKK => ?_)
 go_simp
 (refine (mBack (twoT [42] (twoT [43] xT xT) xT) r6 _ (hm6.after (Nat.le_refl _) (by repeat (first | exact zR _ | assumption | apply zA | apply zD | refine zT ?_ (by assumption))))).mono ?_; rintro e w7 ⟨⟨r7, rfl, hm7⟩, hb7⟩; unfold RN.val)
 (try go_wp2_with fail)
 refine zKK hKK HKP fun hHeld2 => ?_; clear hKK KK hHeld; rename _ => hHeld
 refine zRd 14 (h := fun KK hKK => ?_)
 go_simp
 (refine ((zb HW2) r7 (hm7.after (Nat.le_refl _) (by repeat (first | exact zR _ | assumption | apply zA | apply zD | refine zT ?_ (by assumption))))).mono ?_; rintro e w8 ⟨rfl, hb8⟩)
 (try go_wp2_with fail)
 refine zKK hKK HKP fun hHeld2 => ?_; clear hKK KK hHeld; rename _ => hHeld
 refine zTk 15 (h := ?_)
 refine zTk 16 (h := ?_)
 refine zRd 17 (h := fun KK hKK => ?_)
 go_simp
 (refine (mLit _).mono ?_; rintro e w9 ⟨⟨r9, rfl, hm9⟩, hb9⟩; unfold RN.val)
 (try go_wp2_with fail)
 refine zKK hKK HKP fun hHeld2 => ?_; clear hKK KK hHeld; rename _ => hHeld
 refine zRd 18 (h := fun KK hKK => ?_)
 go_simp
 (refine (mSel litT r9 ⟨#[97]⟩ _ (hm9.after (Nat.le_refl _) (by repeat (first | exact zR _ | assumption | apply zA | apply zD | refine zT ?_ (by assumption))))).mono ?_; rintro e w10 ⟨⟨r10, rfl, hm10⟩, hb10⟩; unfold RN.val)
 (try go_wp2_with fail)
 refine zKK hKK HKP fun hHeld2 => ?_; clear hKK KK hHeld; rename _ => hHeld
 refine zRd 19 (h := fun KK hKK => ?_)
 go_simp
 (refine (mBranch (selT litT [97]) r10 _ (hm10.after (Nat.le_refl _) (by repeat (first | exact zR _ | assumption | apply zA | apply zD | refine zT ?_ (by assumption))))).mono ?_; rintro e w11 ⟨⟨r11, rfl, hm11⟩, hb11⟩; unfold RN.val)
 (try go_wp2_with fail)
 refine zKK hKK HKP fun hHeld2 => ?_; clear hKK KK hHeld; rename _ => hHeld
 refine zRd 20 (h := fun KK hKK => ?_)
 go_simp
 (refine ((zb HW3) r11 (hm11.after (Nat.le_refl _) (by repeat (first | exact zR _ | assumption | apply zA | apply zD | refine zT ?_ (by assumption))))).mono ?_; rintro e w12 ⟨rfl, hb12⟩)
 (try go_wp2_with fail)
 refine zKK hKK HKP fun hHeld2 => ?_; clear hKK KK hHeld; rename _ => hHeld
 refine zTk 21 (h := ?_)
 refine zTk 22 (h := ?_)
 refine zRd 23 (h := fun KK hKK => ?_)
 go_simp
 (refine (mLit _).mono ?_; rintro e w13 ⟨⟨r13, rfl, hm13⟩, hb13⟩; unfold RN.val)
 (try go_wp2_with fail)
 refine zKK hKK HKP fun hHeld2 => ?_; clear hKK KK hHeld; rename _ => hHeld
 refine zRd 24 (h := fun KK hKK => ?_)
 go_simp
 (refine (mParen litT r13 _ (hm13.after (Nat.le_refl _) (by repeat (first | exact zR _ | assumption | apply zA | apply zD | refine zT ?_ (by assumption))))).mono ?_; rintro e w14 ⟨⟨r14, rfl, hm14⟩, hb14⟩; unfold RN.val)
 (try go_wp2_with fail)
 refine zKK hKK HKP fun hHeld2 => ?_; clear hKK KK hHeld; rename _ => hHeld
 refine zRd 25 (h := fun KK hKK => ?_)
 go_simp
 (refine (mSel (parenT litT) r14 ⟨#[97]⟩ _ (hm14.after (Nat.le_refl _) (by repeat (first | exact zR _ | assumption | apply zA | apply zD | refine zT ?_ (by assumption))))).mono ?_; rintro e w15 ⟨⟨r15, rfl, hm15⟩, hb15⟩; unfold RN.val)
 (try go_wp2_with fail)
 refine zKK hKK HKP fun hHeld2 => ?_; clear hKK KK hHeld; rename _ => hHeld
 refine zRd 26 (h := fun KK hKK => ?_)
 go_simp
 (refine (mBranch (selT (parenT litT) [97]) r15 _ (hm15.after (Nat.le_refl _) (by repeat (first | exact zR _ | assumption | apply zA | apply zD | refine zT ?_ (by assumption))))).mono ?_; rintro e w16 ⟨⟨r16, rfl, hm16⟩, hb16⟩; unfold RN.val)
 (try go_wp2_with fail)
 refine zKK hKK HKP fun hHeld2 => ?_; clear hKK KK hHeld; rename _ => hHeld
 refine zRd 27 (h := fun KK hKK => ?_)
 go_simp
 (refine ((zb HW4) r16 (hm16.after (Nat.le_refl _) (by repeat (first | exact zR _ | assumption | apply zA | apply zD | refine zT ?_ (by assumption))))).mono ?_; rintro e w17 ⟨rfl, hb17⟩)
 (try go_wp2_with fail)
 refine zKK hKK HKP fun hHeld2 => ?_; clear hKK KK hHeld; rename _ => hHeld
 refine zTk 28 (h := ?_)
 refine zTk 29 (h := ?_)
 refine zRd 30 (h := fun KK hKK => ?_)
 go_simp
 (refine (mBody [] none 0 _ ⟨[], RowOf.nil_, rfl, fun i x r hx _ => by simp at hx⟩).mono ?_; rintro e w18 ⟨⟨r18, rfl, hm18⟩, hb18⟩; unfold RN.val)
 (try go_wp2_with fail)
 refine zKK hKK HKP fun hHeld2 => ?_; clear hKK KK hHeld; rename _ => hHeld
 refine zRd 31 (h := fun KK hKK => ?_)
 go_simp
 (refine (aDepth (bodyT []) r18 _ (hm18.after (Nat.le_refl _) (by repeat (first | exact zR _ | assumption | apply zA | apply zD | refine zT ?_ (by assumption)))) (by decide)).mono ?_; rintro e w19 ⟨rfl, hb19⟩; rw [show depthV (bodyT []) = 3 from by decide])
 (try go_wp2_with fail)
 refine zKK hKK HKP fun hHeld2 => ?_; clear hKK KK hHeld; rename _ => hHeld
 refine zTk 32 (h := ?_)
 refine zTk 33 (h := ?_)
 refine zTk 34 (h := ?_)
 refine zTk 35 (h := ?_)
 refine zRd 36 (h := fun KK hKK => ?_)
 go_simp
 (refine (mName ⟨#[120]⟩ _).mono ?_; rintro e w20 ⟨⟨r20, rfl, hm20⟩, hb20⟩; unfold RN.val)
 (try go_wp2_with fail)
 refine zKK hKK HKP fun hHeld2 => ?_; clear hKK KK hHeld; rename _ => hHeld
 refine zRd 37 (h := fun KK hKK => ?_)
 go_simp
 (refine (aSame xT xT r r20 _ (zb HXM) (hm20.after (Nat.le_refl _) (by repeat (first | exact zR _ | assumption | apply zA | apply zD | refine zT ?_ (by assumption)))) (by decide)).mono ?_; rintro e w21 ⟨rfl, hb21⟩; rw [show sameV xT xT = true from by decide])
 (try go_wp2_with fail)
 refine zKK hKK HKP fun hHeld2 => ?_; clear hKK KK hHeld; rename _ => hHeld
 refine zTk 38 (h := ?_)
 refine zTk 39 (h := ?_)
 refine wpAnyH_done (by kernel_rfl) ?_ _
 have HE := below_then hbA (below_then HB.out hHeld.1)
 clear hHeld
 go_wp2_with fail
 go_ret
 exact ⟨rfl, HE⟩
end Go.Proofs.YtacdfjlncfidgaaGreatDoor
