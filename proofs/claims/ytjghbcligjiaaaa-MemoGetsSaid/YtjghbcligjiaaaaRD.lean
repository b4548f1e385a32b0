/- MemoGets: the counter's method; what Get makes of a memo where nothing is being made. Out of: The memo and the document's, side by side. One's Give; one whole. What a round of MemoPlays asks of both memos. -/
import Derived.Test.YtjghbcligjiaaaaRB
import Derived.Test.YtjghbcligjiaaaaCount
import Derived.Test.YtjghbcligjiaaaaSame
import Derived.Test.YtjghbcligjiaaaaAwake
import Derived.Test.YtjghbcligjiaaaaGetI
import Derived.Test.YtjghbcligjiaaaaRead
namespace Go.Proofs.Ytjghbcligjiaaaa
section
open Go.RowKit Go.Maps Go.Sort Go.MuLone
set_option linter.unusedVariables false
set_option linter.unusedSimpArgs false
structure Two (w0 : World) (n m r k : Nat) (A : AS Int) (F G : List Nat) (w : World) : Prop where
  held : Held Try.prog Ti w m A F
  ref : RefHeld w r A G
  apart : ∀ b ∈ F, b ∉ G
  base : ∀ b ∈ F, w0.heap.size ≤ b
  rbase : ∀ b ∈ G, w0.heap.size ≤ b
  below : Below w0.heap.size w0 w
  most : A.most = n
  sm : SmA A k
section
variable {w0 w w' w1 w2 : World} {n m r k : Nat} {A A1 : AS Int} {F F1 G G2 H : List Nat}
theorem Two.aside (h : Two w0 n m r k A F G w) (ho : Only H w w') (hH : ∀ b ∈ H, b ∉ F ∧ b ∉ G ∧ w0.heap.size ≤ b) : Two w0 n m r k A F G w' :=
  ⟨h.held.other ho (fun b hb hm => (hH b hm).1 hb), h.ref.other ho (fun b hb hm => (hH b hm).2.1 hb), h.apart, h.base, h.rbase, h.below.trans (ho.toBelow (fun b hb => (hH b hb).2.2) h.below.size), h.most, h.sm⟩
theorem Two.later (h : Two w0 n m r k A F G w) (ho : Only H w w') (hH : ∀ b ∈ H, w.heap.size ≤ b) : Two w0 n m r k A F G w' :=
  h.aside ho (fun b hb => ⟨fun hm => by have := h.held.lt b hm; have := hH b hb; omega, fun hm => by have := h.ref.lt b hm; have := hH b hb; omega, Nat.le_trans h.below.size (hH b hb)⟩)
theorem Two.same (h : Two w0 n m r k A F G w) (hh : w'.heap = w.heap) (e1 : w'.os = w.os) (e2 : w'.tape = w.tape) (e3 : w'.output = w.output) : Two w0 n m r k A F G w' :=
  h.later (H := []) ⟨e1, e2, e3, by rw [hh]; exact Nat.le_refl _, fun b _ _ => by rw [hh]⟩ (fun b hb => by cases hb)
/-- The memo's turn: the document's stays. -/
theorem Two.ref1 (h : Two w0 n m r k A F G w) (ho : Only F w w1) : RefHeld w1 r A G := h.ref.other ho (fun b hb hm => h.apart b hm hb)
/-- Both turned. -/
theorem Two.both (h : Two w0 n m r k A F G w) (hh : Held Try.prog Ti w1 m A1 F1) (hg : Grow F F1 w) (ho : Only F w w1) (hr : RefHeld w2 r A1 G2) (hg2 : Grow G G2 w1) (ho2 : Only G w1 w2) (hm : A1.most = A.most) (hs : SmA A1 (k + 1)) :
    Two w0 n m r (k + 1) A1 F1 G2 w2 := by
  have hsz := ho.size
  have hap : ∀ b ∈ F1, b ∉ G := fun b hb hbG => by
    rcases hg b hb with h1 | h1
    · exact h.apart b h1 hbG
    · have := h.ref.lt b hbG; omega
  refine ⟨hh.other ho2 hap, hr, fun b hb hbG => ?_, hg.base h.base h.below.size, fun b hb => ?_, ?_, hm.trans h.most, hs⟩
  · rcases hg2 b hbG with h1 | h1
    · exact hap b hb h1
    · have := hh.lt b hb; omega
  · rcases hg2 b hb with h1 | h1
    · exact h.rbase b h1
    · have := h.below.size; omega
  · exact (h.below.trans (ho.toBelow h.base h.below.size)).trans (ho2.toBelow h.rbase (Nat.le_trans h.below.size hsz))
end
/-- What a call makes of the plain memo. -/
def actA (A : AS Int) (a : Act1) (last : ByteArray) : AS Int :=
  if a.what.tmod 3 = 0 then (askA A a.key a.who).1 else if a.what.tmod 3 = 2 then (giveA A last (makerA A last) a.x).1 else (giveA A a.key a.who a.x).1
theorem acells {w : World} {b : Nat} {v0 v1 v2 v3 : Value} (h : w.heap[b]? = some (.cells #[v0, v1, v2, v3] 43 (0, 0))) :
    w.cell? ⟨b, 0, none⟩ = some v0 ∧ w.cell? ⟨b, 1, none⟩ = some v1 ∧ w.cell? ⟨b, 2, none⟩ = some v2 ∧ w.cell? ⟨b, 3, none⟩ = some v3 ∧ (∀ j, w.frozen? ⟨b, j, none⟩ = false) ∧ b < w.heap.size :=
  ⟨by rw [cell_of_row _ _ _ _ _ _ h]; rfl, by rw [cell_of_row _ _ _ _ _ _ h]; rfl, by rw [cell_of_row _ _ _ _ _ _ h]; rfl, by rw [cell_of_row _ _ _ _ _ _ h]; rfl, fun j => by simp [World.frozen?, h], (Array.getElem?_eq_some_iff.1 h).1⟩
theorem Ti_enc (x : Int) : Ti.enc x = .int .i64 x := rfl
theorem Ti_zero : Ti.zero = .int .i64 0 := rfl
theorem askOut_int (q : AskR Int) : ∃ x c d : Int, askOut Ti q = .tuple #[.int .i64 x, .int .i64 c, .int .i64 d] := by
  cases q with
  | hit x => exact ⟨x, 1, 0, rfl⟩
  | make => exact ⟨0, 2, 0, rfl⟩
  | wait => exact ⟨0, 3, 0, rfl⟩
  | own => exact ⟨0, 0, 19, rfl⟩
section
variable {w0 w : World} {n m r k : Nat} {A : AS Int} {F G : List Nat}
set_option maxRecDepth 100000 in
set_option maxHeartbeats 800000 in
theorem one_ask (a : Act1) (last : ByteArray) (h : Two w0 n m r k A F G w) (hn : 1 ≤ n) (hk : k ≤ 800) (ha : a.good) (hw : a.what.tmod 3 = 0) :
    Calls Try.prog 13 #[.pointer (some ⟨m, 0, none⟩), .pointer (some ⟨r, 0, none⟩), .agg a.cells.toArray, .string last] w fun e w' => e = .returned (.bool true) ∧ ∃ F' G', Two w0 n m r (k + 1) (actA A a last) F' G' w' := by
  unfold actA
  rw [if_pos hw]
  have h0 : Two w0 n m r k A F G (w.alloc (.cells a.cells.toArray 43)) := h.later (H := []) alloc_only (fun b hb => by cases hb)
  have hA := AskHI a.key a.who h0.held (by rw [h0.most]; omega) ha.2.2.2 (h0.sm.mono (by omega))
  have hR : ∀ w1, RefHeld w1 r A G → _ := fun w1 h1 => RefAsk a.key a.who h1 (h0.sm.mono (by omega))
  have hS := askA_sm h0.sm a.key a.who
  have hM := askA_most A a.key a.who
  have hbF : w.heap.size ∉ F := fun hm => by have := h.held.lt _ hm; omega
  have hbox : (w.alloc (.cells a.cells.toArray 43)).heap[w.heap.size]? = some (.cells a.cells.toArray 43 (0, 0)) := heap_alloc_new w _
  have hszb : w.heap.size < (w.alloc (.cells a.cells.toArray 43)).heap.size := by rw [World.size_alloc]; omega
  obtain ⟨x, c, d, e⟩ := askOut_int (askA A a.key a.who).2
  rw [e] at hA
  simp only [e] at hR
  have H0 := Lib.hid h0
  have HS := Lib.hid hS
  have HM := Lib.hid hM
  clear e h h0 hS hM
  generalize (askA A a.key a.who).1 = A1 at hA hR HS HM ⊢
  unfold Act1.cells at hA hbox hszb H0 ⊢
  have HA := Lib.hid hA
  have HR := Lib.hid hR
  have HBF := Lib.hid hbF
  have HBX := Lib.hid hbox
  have HSZ := Lib.hid hszb
  clear hA hR hbF hbox hszb
  go_enter Try.func13, Try.ntmps13
  go_wp2_with (first
    | (go_at_call 9; refine HA.out.mono ?_; rintro e w1 ⟨rfl, F1, h1, hg1, ho1⟩; obtain ⟨_, y1, _, y3, _, yl⟩ := acells ((ho1.keep HSZ.out HBF.out).trans HBX.out); have H1 := Lib.hid (And.intro h1 (And.intro hg1 ho1)); clear h1 hg1 ho1)
    | (go_at_call 22; refine (HR.out w1 (H0.out.ref1 H1.out.2.2)).mono ?_; rintro e w2 ⟨rfl, G2, h2, hg2, ho2⟩; have H2 := Lib.hid (And.intro h2 (And.intro hg2 ho2)); clear h2 hg2 ho2))
  go_ret
  exact ⟨rfl, F1, G2, H0.out.both H1.out.1 H1.out.2.1 H1.out.2.2 H2.out.1 H2.out.2.1 H2.out.2.2 HM.out HS.out⟩
end
end

section
open Go.RowKit Go.Maps Go.Sort Go.MuLone
set_option linter.unusedVariables false
set_option linter.unusedSimpArgs false
def gaveC (r : Option (List Int)) : Int := match r with | some _ => 0 | none => 5
theorem GaveH.row {w : World} {F F' : List Nat} {r : Option (List Int)} {v : Value} {c : Int} (h : GaveH w F F' r v c) : OffRow 3 w v ((r.getD []).map (Value.int .i64)) ∧ c = gaveC r ∧ ∀ q, v.ownBlock = some q → q ∈ F := by
  cases r with
  | none => obtain ⟨rfl, rfl⟩ := h; exact ⟨OffRow.nil_, rfl, fun q hq => by simp [Value.ownBlock] at hq⟩
  | some l => exact ⟨h.1, h.2.1, fun q hq => (h.2.2 q hq).1⟩
section
variable {w0 w : World} {n m r k : Nat} {A : AS Int} {F G : List Nat}
set_option maxRecDepth 100000 in
set_option maxHeartbeats 1600000 in
theorem one_give1 (a : Act1) (last : ByteArray) (h : Two w0 n m r k A F G w) (hn : 1 ≤ n) (hn2 : n ≤ 64) (hk : k ≤ 800) (ha : a.good) (hw : ¬ a.what.tmod 3 = 0) (hw2 : ¬ a.what.tmod 3 = 2) :
    Calls Try.prog 13 #[.pointer (some ⟨m, 0, none⟩), .pointer (some ⟨r, 0, none⟩), .agg a.cells.toArray, .string last] w fun e w' => e = .returned (.bool true) ∧ ∃ F' G', Two w0 n m r (k + 1) (actA A a last) F' G' w' := by
  unfold actA
  rw [if_neg hw, if_neg hw2]
  have h0 : Two w0 n m r k A F G (w.alloc (.cells a.cells.toArray 43)) := h.later (H := []) alloc_only (fun b hb => by cases hb)
  have hA := GiveHI a.key a.who a.x h0.held ha.2.2.2 ha.2.2.1 (by rw [h0.most]; omega) (by rw [h0.most]; omega) (h0.sm.mono (by omega))
  have hR : ∀ w1, RefHeld w1 r A G → _ := fun w1 h1 => RefGive a.key a.who a.x h1 (h0.sm.mono (by omega))
  have hS := giveA_sm h0.sm a.key a.who a.x
  have hM := giveA_most A a.key a.who a.x
  have hbF : w.heap.size ∉ F := fun hm => by have := h.held.lt _ hm; omega
  have hbox : (w.alloc (.cells a.cells.toArray 43)).heap[w.heap.size]? = some (.cells a.cells.toArray 43 (0, 0)) := heap_alloc_new w _
  have hszb : w.heap.size < (w.alloc (.cells a.cells.toArray 43)).heap.size := by rw [World.size_alloc]; omega
  generalize (giveA A a.key a.who a.x).2 = rr at hA hR ⊢
  have H0 := Lib.hid h0
  have HS := Lib.hid hS
  have HM := Lib.hid hM
  clear h h0 hS hM
  generalize (giveA A a.key a.who a.x).1 = A1 at hA hR HS HM ⊢
  unfold Act1.cells at hA hbox hszb H0 ⊢
  have HA := Lib.hid hA
  have HR := Lib.hid hR
  have HBF := Lib.hid hbF
  have HBX := Lib.hid hbox
  have HSZ := Lib.hid hszb
  clear hA hR hbF hbox hszb
  go_enter Try.func13, Try.ntmps13
  go_wp2_with (first
    | (go_at_call 11; refine HA.out.mono ?_; rintro e w1 ⟨v1, c1, F1, rfl, hgv, h1, hg1, ho1⟩; obtain ⟨_, y1, y2, y3, _, yl⟩ := acells ((ho1.keep HSZ.out HBF.out).trans HBX.out); obtain ⟨gr1, rfl, gb1⟩ := hgv.row; have G1 := Lib.hid (And.intro gr1 gb1); have H1 := Lib.hid (And.intro h1 (And.intro hg1 ho1)); clear h1 hg1 ho1 hgv gr1 gb1)
    | (go_at_call 23; refine (HR.out w1 (H0.out.ref1 H1.out.2.2)).mono ?_; rintro e w2 ⟨v2, c2, G2, rfl, hgv2, h2, hg2, ho2⟩; obtain ⟨gr2, rfl, gb2⟩ := hgv2.row; have G2r := Lib.hid gr2; have H2 := Lib.hid (And.intro h2 (And.intro hg2 ho2)); clear h2 hg2 ho2 hgv2 gr2 gb2)
    | (go_at_call 17; refine (same_17 v1 v2 (rr.getD []) w2 (G1.out.1.other H2.out.2.2 (fun q hq hm => H0.out.apart q (G1.out.2 q hq) hm)) G2r.out).mono ?_; rintro e w3 ⟨rfl, q, rfl⟩))
  go_ret
  exact ⟨rfl, F1, G2, (H0.out.both H1.out.1 H1.out.2.1 H1.out.2.2 H2.out.1 H2.out.2.1 H2.out.2.2 HM.out HS.out).same rfl rfl rfl rfl⟩
/-- A box twice set. -/
theorem box_set (w : World) (v0 v1 v2 v3 t : Value) (q : Nat) :
    (((w.alloc (.cells #[v0, v1, v2, v3] 43)).drewN q).setCell ⟨w.heap.size, 1, none⟩ t).heap[w.heap.size]? = some (.cells #[v0, t, v2, v3] 43 (0, 0)) :=
  set_heap (heap_alloc_new w _)
theorem maker_held {w : World} {r : Nat} {A : AS Int} {G : List Nat} (h : RefHeld w r A G) (hs : SmA A 1000) (k : ByteArray) :
    Calls Try.prog 39 #[.pointer (some ⟨r, 0, none⟩), .string k] w fun e w' => e = .returned (.int .i64 (makerA A k)) ∧ ∃ q, w' = w.drewN q := by
  obtain ⟨S, kv, mv, h, rfl, rfl⟩ := h
  exact maker_any h (by have := hs.making; simpa [RS.abs] using this) k
set_option maxRecDepth 100000 in
set_option maxHeartbeats 1600000 in
theorem one_give2 (a : Act1) (last : ByteArray) (h : Two w0 n m r k A F G w) (hn : 1 ≤ n) (hn2 : n ≤ 64) (hk : k ≤ 800) (ha : a.good) (hw : ¬ a.what.tmod 3 = 0) (hw2 : a.what.tmod 3 = 2) (hl : last.size ≤ maxLen) :
    Calls Try.prog 13 #[.pointer (some ⟨m, 0, none⟩), .pointer (some ⟨r, 0, none⟩), .agg a.cells.toArray, .string last] w fun e w' => e = .returned (.bool true) ∧ ∃ F' G', Two w0 n m r (k + 1) (actA A a last) F' G' w' := by
  unfold actA
  rw [if_neg hw, if_pos hw2]
  have hx := ha.2.2.1
  have h0 : Two w0 n m r k A F G (w.alloc (.cells a.cells.toArray 43)) := h.later (H := []) alloc_only (fun b hb => by cases hb)
  have hall : ∀ cs, Two w0 n m r k A F G (w.alloc (.cells cs 43)) := fun cs => h.later (H := []) alloc_only (fun b hb => by cases hb)
  have HALL := Lib.hid hall
  clear hall
  have hA : ∀ w1, Two w0 n m r k A F G w1 → _ := fun w1 h1 => GiveHI last (makerA A last) a.x h1.held hl hx (by rw [h1.most]; omega) (by rw [h1.most]; omega) (h1.sm.mono (by omega))
  have hR : ∀ w1, RefHeld w1 r A G → _ := fun w1 h1 => RefGive last (makerA A last) a.x h1 (h0.sm.mono (by omega))
  have hS := giveA_sm h0.sm last (makerA A last) a.x
  have hM := giveA_most A last (makerA A last) a.x
  have hbF : w.heap.size ∉ F := fun hm => by have := h.held.lt _ hm; omega
  have hbG : w.heap.size ∉ G := fun hm => by have := h.ref.lt _ hm; omega
  have hb0 : w0.heap.size ≤ w.heap.size := h.below.size
  have hbox : (w.alloc (.cells a.cells.toArray 43)).heap[w.heap.size]? = some (.cells a.cells.toArray 43 (0, 0)) := heap_alloc_new w _
  have hszb : w.heap.size < (w.alloc (.cells a.cells.toArray 43)).heap.size := by rw [World.size_alloc]; omega
  generalize hmk : makerA A last = mk at hA hR hS hM ⊢
  generalize (giveA A last mk a.x).2 = rr at hA hR ⊢
  have H0 := Lib.hid h0
  have HS := Lib.hid hS
  have HM := Lib.hid hM
  clear h h0 hS hM
  generalize (giveA A last mk a.x).1 = A1 at hA hR HS HM ⊢
  unfold Act1.cells at hbox hszb H0 ⊢
  have hmk1 : ∀ w1, Two w0 n m r k A F G w1 → _ := fun w1 h1 => maker_held h1.ref (h1.sm.mono (by omega)) last
  rw [hmk] at hmk1
  have HMK := Lib.hid hmk1
  have HA := Lib.hid hA
  have HR := Lib.hid hR
  have HO := Lib.hid (show ∀ b ∈ [w.heap.size], b ∉ F ∧ b ∉ G ∧ w0.heap.size ≤ b from fun b hb => by simp at hb; subst hb; exact ⟨hbF, hbG, hb0⟩)
  have HBF := Lib.hid hbF
  have HBX := Lib.hid hbox
  have HSZ := Lib.hid hszb
  have HSZ2 := Lib.hid (show ∀ cs q, w.heap.size < ((w.alloc (.cells cs 43)).drewN q).heap.size from fun cs q => by show _ < (w.alloc _).heap.size; rw [World.size_alloc]; omega)
  clear hA hR hbF hbG hb0 hbox hszb hmk hmk1
  go_enter Try.func13, Try.ntmps13
  go_wp2_with (go_at_call 39; refine Calls.mono (HMK.out _ (HALL.out _)) ?_; rintro e w1 ⟨rfl, q1, rfl⟩)
  have t5 := ((HALL.out #[.int .i64 a.what, .int .i64 a.who, .int .i64 a.x, .string last]).same (w' := (w.alloc (.cells #[.int .i64 a.what, .int .i64 a.who, .int .i64 a.x, .string last] 43)).drewN q1) rfl rfl rfl rfl).aside (set_only (i := 1) (v := .int .i64 mk) (List.mem_singleton.2 rfl)) HO.out
  refine Calls.mono (HA.out _ t5) ?_
  rintro e w1 ⟨v1, c1, F1, rfl, hgv, h1, hg1, ho1⟩
  obtain ⟨_, y1, y2, y3, _, yl⟩ := acells ((ho1.keep (by rw [set_size]; exact HSZ2.out _ _) HBF.out).trans (box_set w _ _ _ _ _ q1))
  obtain ⟨gr1, rfl, gb1⟩ := hgv.row
  have G1 := Lib.hid (And.intro gr1 gb1)
  have H5 := Lib.hid t5
  have H1 := Lib.hid (And.intro h1 (And.intro hg1 ho1))
  clear h1 hg1 ho1 hgv gr1 gb1 t5
  go_wp2_with (first
    | (go_at_call 23; refine (HR.out w1 (H5.out.ref1 H1.out.2.2)).mono ?_; rintro e w2 ⟨v2, c2, G2, rfl, hgv2, h2, hg2, ho2⟩; obtain ⟨gr2, rfl, gb2⟩ := hgv2.row; have G2r := Lib.hid gr2; have H2 := Lib.hid (And.intro h2 (And.intro hg2 ho2)); clear h2 hg2 ho2 hgv2 gr2 gb2)
    | (go_at_call 17; refine (same_17 v1 v2 (rr.getD []) w2 (G1.out.1.other H2.out.2.2 (fun q hq hm => H0.out.apart q (G1.out.2 q hq) hm)) G2r.out).mono ?_; rintro e w3 ⟨rfl, q, rfl⟩))
  go_ret
  exact ⟨rfl, F1, G2, (H5.out.both H1.out.1 H1.out.2.1 H1.out.2.2 H2.out.1 H2.out.2.1 H2.out.2.2 HM.out HS.out).same rfl rfl rfl rfl⟩
theorem one_any (a : Act1) (last : ByteArray) (h : Two w0 n m r k A F G w) (hn : 1 ≤ n) (hn2 : n ≤ 64) (hk : k ≤ 800) (ha : a.good) (hl : last.size ≤ maxLen) :
    Calls Try.prog 13 #[.pointer (some ⟨m, 0, none⟩), .pointer (some ⟨r, 0, none⟩), .agg a.cells.toArray, .string last] w fun e w' => e = .returned (.bool true) ∧ ∃ F' G', Two w0 n m r (k + 1) (actA A a last) F' G' w' := by
  by_cases hw : a.what.tmod 3 = 0
  · exact one_ask a last h hn hk ha hw
  · by_cases hw2 : a.what.tmod 3 = 2
    · exact one_give2 a last h hn hn2 hk ha hw hw2 hl
    · exact one_give1 a last h hn hn2 hk ha hw hw2
end
end

section
open Go.RowKit Go.Maps Go.Sort Go.MuLone
set_option linter.unusedVariables false
set_option linter.unusedSimpArgs false
theorem OffRow.under {e : TypeId} {w w' : World} {v : Value} {l : List Value} (h : OffRow e w v l) (hb : Below w.heap.size w w') : OffRow e w' v l := h.keep fun q hq => hb.block q (h.lt q hq)
/-- Both memos, the document's cells seen. -/
structure St (w0 : World) (n m r k : Nat) (A : AS Int) (F G : List Nat) (kv mv : Value) (w : World) : Prop where
  two : Two w0 n m r k A F G w
  at_ : ∃ S, RefAt w r S kv mv ∧ S.abs = A ∧ rfoot S r kv mv = G
  kb : 1 ≤ n ∧ k ≤ 900
section
variable {w0 w w' w1 w2 : World} {n m r k : Nat} {A A1 : AS Int} {F F1 G G2 H : List Nat} {kv mv : Value}
theorem Two.st (h : Two w0 n m r k A F G w) (hk : 1 ≤ n ∧ k ≤ 900) : ∃ kv mv, St w0 n m r k A F G kv mv w := by
  obtain ⟨S, kv, mv, h1, h2, h3⟩ := h.ref
  exact ⟨kv, mv, h, ⟨S, h1, h2, h3⟩, hk⟩
theorem St.ofOnly (h : St w0 n m r k A F G kv mv w) (hh : Held Try.prog Ti w' m A F) (ho : Only F w w') : St w0 n m r k A F G kv mv w' := by
  obtain ⟨S, h1, h2, h3⟩ := h.at_
  refine ⟨⟨hh, h.two.ref1 ho, h.two.apart, h.two.base, h.two.rbase, h.two.below.trans (ho.toBelow h.two.base h.two.below.size), h.two.most, h.two.sm⟩, ⟨S, h1.keep fun b hb => ?_, h2, h3⟩, h.kb⟩
  exact ho.block b (h1.lt b hb) (fun hm => h.two.apart b hm (h3 ▸ hb))
theorem St.later (h : St w0 n m r k A F G kv mv w) (hb : Below w.heap.size w w') : St w0 n m r k A F G kv mv w' := by
  have ho : Only [] w w' := Only.below hb
  obtain ⟨S, h1, h2, h3⟩ := h.at_
  exact ⟨h.two.later ho (fun b hb => by cases hb), ⟨S, h1.keep fun b hb2 => hb.block b (h1.lt b hb2), h2, h3⟩, h.kb⟩
theorem St.same (h : St w0 n m r k A F G kv mv w) (hh : w'.heap = w.heap) (e1 : w'.os = w.os) (e2 : w'.tape = w.tape) (e3 : w'.output = w.output) : St w0 n m r k A F G kv mv w' :=
  h.later ⟨e1, e2, e3, by rw [hh]; exact Nat.le_refl _, fun b _ => by rw [hh]⟩
theorem St.cells (h : St w0 n m r k A F G kv mv w) : w.cell? ⟨r, 1, none⟩ = some kv ∧ w.cell? ⟨r, 2, none⟩ = some mv := by
  obtain ⟨S, h1, h2, h3⟩ := h.at_
  obtain ⟨r0, r1, r2, rz⟩ := rcells h1.obj
  exact ⟨r1, r2⟩
theorem St.kept (h : St w0 n m r k A F G kv mv w) : Calls Try.prog 15 #[.pointer (some ⟨m, 0, none⟩)] w fun e w' => ∃ v, e = .returned v ∧ OffRow 9 w' v ((keys A.kept).map Value.string) ∧ St w0 n m r k A F G kv mv w' := by
  have := h.kb
  refine (KeptHI h.two.held (by rw [h.two.most]; omega) (h.two.sm.mono (by omega))).mono ?_
  rintro e w' ⟨v, rfl, h1, h2, h3, h4⟩
  exact ⟨v, rfl, h1, h.ofOnly h3 h4⟩
theorem St.making (h : St w0 n m r k A F G kv mv w) : Calls Try.prog 10 #[.pointer (some ⟨m, 0, none⟩)] w fun e w' => ∃ v, e = .returned v ∧ OffRow 9 w' v ((keys A.making).map Value.string) ∧ St w0 n m r k A F G kv mv w' := by
  have := h.kb
  refine (MakingHI h.two.held (by rw [h.two.most]; omega) (h.two.sm.mono (by omega))).mono ?_
  rintro e w' ⟨v, rfl, h1, h2, h3, h4⟩
  exact ⟨v, rfl, h1, h.ofOnly h3 h4⟩
theorem St.waiting (h : St w0 n m r k A F G kv mv w) (key : ByteArray) (hs : key.size ≤ maxLen) : Calls Try.prog 18 #[.pointer (some ⟨m, 0, none⟩), .string key] w fun e w' => ∃ v, e = .returned v ∧ OffRow 3 w' v ((waitA A key).map (Value.int .i64)) ∧ St w0 n m r k A F G kv mv w' := by
  have := h.kb
  refine (WaitingHI key h.two.held hs (by rw [h.two.most]; omega) (h.two.sm.mono (by omega))).mono ?_
  rintro e w' ⟨v, rfl, h1, h2, h3, h4⟩
  exact ⟨v, rfl, h1, h.ofOnly h3 h4⟩
theorem St.keysK (h : St w0 n m r k A F G kv mv w) {v1 : Value} {l1 : List Value} (hv : OffRow 9 w v1 l1) : Calls Try.prog 16 #[kv] w fun e w' => ∃ v, e = .returned v ∧ OffRow 9 w' v ((keys A.kept).map Value.string) ∧ OffRow 9 w' v1 l1 ∧ St w0 n m r k A F G kv mv w' := by
  have := h.kb
  obtain ⟨S, h1, h2, h3⟩ := h.at_
  have hsm := h.two.sm.kept
  rw [← h2] at hsm
  refine (keys_kept h1 (by simp [RS.abs] at hsm; omega)).mono ?_
  rintro e w' ⟨v, rfl, h4, h5, h6⟩
  rw [h2] at h4
  exact ⟨v, rfl, h4, hv.under h6, h.later h6⟩
theorem St.keysM (h : St w0 n m r k A F G kv mv w) {v1 : Value} {l1 : List Value} (hv : OffRow 9 w v1 l1) : Calls Try.prog 16 #[mv] w fun e w' => ∃ v, e = .returned v ∧ OffRow 9 w' v ((keys A.making).map Value.string) ∧ OffRow 9 w' v1 l1 ∧ St w0 n m r k A F G kv mv w' := by
  have := h.kb
  obtain ⟨S, h1, h2, h3⟩ := h.at_
  have hsm := h.two.sm.making
  rw [← h2] at hsm
  refine (keys_making h1 (by simp [RS.abs] at hsm; omega)).mono ?_
  rintro e w' ⟨v, rfl, h4, h5, h6⟩
  rw [h2] at h4
  exact ⟨v, rfl, h4, hv.under h6, h.later h6⟩
theorem St.refWait (h : St w0 n m r k A F G kv mv w) (key : ByteArray) {v1 : Value} {l1 : List Value} (hv : OffRow 3 w v1 l1) : Calls Try.prog 19 #[.pointer (some ⟨r, 0, none⟩), .string key] w fun e w' => ∃ v, e = .returned v ∧ OffRow 3 w' v ((waitA A key).map (Value.int .i64)) ∧ OffRow 3 w' v1 l1 ∧ St w0 n m r k A F G kv mv w' := by
  have := h.kb
  obtain ⟨S, h1, h2, h3⟩ := h.at_
  have hsm := h.two.sm.making
  rw [← h2] at hsm
  refine (refWaiting h1 (by simp [RS.abs] at hsm; omega) key).mono ?_
  rintro e w' ⟨⟨v, rfl, h4, h5⟩, q, rfl⟩
  rw [h2] at h4
  exact ⟨v, rfl, h4, hv, h.same rfl rfl rfl rfl⟩
theorem OffRow.heap {e : TypeId} {v : Value} {l : List Value} (h : OffRow e w v l) (hh : w'.heap = w.heap) : OffRow e w' v l := h.keep fun q _ => by rw [hh]
theorem St.same14 (h : St w0 n m r k A F G kv mv w) {v1 v2 : Value} {l : List ByteArray} (h1 : OffRow 9 w v1 (l.map Value.string)) (h2 : OffRow 9 w v2 (l.map Value.string)) :
    Calls Try.prog 14 #[v1, v2] w fun e w' => e = .returned (.bool true) ∧ St w0 n m r k A F G kv mv w' := by
  refine (same_14 v1 v2 l w h1 h2).mono ?_
  rintro e w' ⟨rfl, q, rfl⟩
  exact ⟨rfl, h.same rfl rfl rfl rfl⟩
theorem St.same17 (h : St w0 n m r k A F G kv mv w) {v1 v2 : Value} {l : List Int} (h1 : OffRow 3 w v1 (l.map (Value.int .i64))) (h2 : OffRow 3 w v2 (l.map (Value.int .i64))) :
    Calls Try.prog 17 #[v1, v2] w fun e w' => e = .returned (.bool true) ∧ St w0 n m r k A F G kv mv w' := by
  refine (same_17 v1 v2 l w h1 h2).mono ?_
  rintro e w' ⟨rfl, q, rfl⟩
  exact ⟨rfl, h.same rfl rfl rfl rfl⟩
end
/-- An empty memo of the document's. -/
theorem ref_new (w : World) (n : Nat) : RefHeld (w.alloc (.cells #[.int .i64 (n : Int), .slice none 0 0, .slice none 0 0] 40)) w.heap.size ⟨n, [], []⟩ [w.heap.size] :=
  ⟨⟨n, [], []⟩, .slice none 0 0, .slice none 0 0, ⟨heap_alloc_new w _, Own.nil_, Own.nil_, fun p hp => (by cases hp), by simp [rfoot, wsFoot, own, Value.ownBlock], by simp [keys], by simp [keys], fun k hk => (by cases hk)⟩, rfl, rfl⟩
end

section
open Go.RowKit Go.Maps Go.Sort Go.MuLone
set_option linter.unusedVariables false
set_option linter.unusedSimpArgs false
/-- What a counter makes of a key. -/
def madeX (base : Int) (key : ByteArray) : Int := wrap64 (base + (key.size : Int))
theorem made_any (b : Nat) (base : Int) (key : ByteArray) (w : World) (h : w.heap[b]? = some (.cells #[.int .i64 0, .int .i64 base] 52 (0, 0))) :
    Calls Try.prog 21 #[.pointer (some ⟨b, 0, none⟩), .string key] w fun e w' => e = .returned (.int .i64 (madeX base key)) ∧ Only [b] w w' ∧ w'.heap[b]? = some (.cells #[.int .i64 1, .int .i64 base] 52 (0, 0)) := by
  have c0 : w.cell? ⟨b, 0, none⟩ = some (.int .i64 0) := by rw [cell_of_row _ _ _ _ _ _ h]; rfl
  have c1 : w.cell? ⟨b, 1, none⟩ = some (.int .i64 base) := by rw [cell_of_row _ _ _ _ _ _ h]; rfl
  have cz : w.frozen? ⟨b, 0, none⟩ = false := by simp [World.frozen?, h]
  have d1 : (w.setCell ⟨b, 0, none⟩ (.int .i64 1)).cell? ⟨b, 1, none⟩ = some (.int .i64 base) := by rw [cell_of_row _ _ _ _ _ _ (set_heap h)]; rfl
  have hs := set_heap (i := 0) (v := .int .i64 1) h
  have ho : Only [b] w (w.setCell ⟨b, 0, none⟩ (.int .i64 1)) := set_only (by simp)
  clear h
  go_enter Try.func21, Try.ntmps21
  go_wp2_with fail
  go_ret
  exact ⟨by unfold madeX; rfl, ho, hs⟩
section
variable {A : AS Int} {k : ByteArray} {who x : Int}
theorem askA_calm (h : A.making = []) (k : ByteArray) (who : Int) : (∃ x, (askA A k who).2 = .hit x ∧ (askA A k who).1.making = []) ∨ (askA A k who).2 = .make := by
  unfold askA
  cases hk : getK A.kept k with
  | some x => exact .inl ⟨x, rfl, h⟩
  | none =>
    rw [h]
    exact .inr rfl
theorem give_calm (h : A.making = []) (hr : (askA A k who).2 = .make) (x : Int) : (giveA (askA A k who).1 k who x).1.making = [] := by
  obtain ⟨h1, h2⟩ := make_none hr
  have e : (askA A k who).1 = { A with making := [(k, (who, []))] } := by unfold askA; rw [h1, h2, h]; rfl
  rw [e]
  simp [giveA, getK, dropK]
end
section
variable {w0 w w' w1 w2 wb : World} {n m r k : Nat} {A A1 : AS Int} {F F1 G G2 H : List Nat}
theorem Two.mono {k' : Nat} (h : Two w0 n m r k A F G w) (hk : k ≤ k') : Two w0 n m r k' A F G w := ⟨h.held, h.ref, h.apart, h.base, h.rbase, h.below, h.most, h.sm.mono hk⟩
/-- The memo has turned, the document's has not; a counter lies beside. -/
structure Half (w0 : World) (n m r : Nat) (A : AS Int) (F G : List Nat) (wr : World) (A1 : AS Int) (F1 : List Nat) (bx : Nat) (cs : Array Value) (w : World) : Prop where
  held : Held Try.prog Ti w m A1 F1
  grow : Grow F F1 wr
  only : Only F wr w
  ref : RefHeld w r A G
  box : w.heap[bx]? = some (.cells cs 52 (0, 0))
  off : bx ∉ F1 ∧ bx ∉ G
  below : Below w0.heap.size w0 w
section
variable {w0 w w' w1 w2 wr wb : World} {n m r k bx : Nat} {A A1 A2 : AS Int} {F F1 G G2 G3 H : List Nat} {cs cs' : Array Value}
theorem half_of (h : Two w0 n m r k A F G wr) (hh : Held Try.prog Ti w m A1 F1) (hg : Grow F F1 (wr.alloc (.cells cs 52))) (hb : w.heap[wr.heap.size]? = some (.cells cs' 52 (0, 0))) (ho : Only (F ++ [wr.heap.size]) (wr.alloc (.cells cs 52)) w) :
    Half w0 n m r A F G wr A1 F1 wr.heap.size cs' w := by
  have hs : (wr.alloc (.cells cs 52)).heap.size = wr.heap.size + 1 := World.size_alloc ..
  have h0 : Only F wr (wr.alloc (.cells cs 52)) := alloc_only
  have h1 : Only F wr w := h0.later ho (fun x hx => by
    rcases List.mem_append.1 hx with hx | hx
    · exact .inl hx
    · simp at hx; exact .inr (by omega))
  refine ⟨hh, fun b hb => ?_, h1, h.ref1 h1, hb, ⟨fun hm => ?_, fun hm => by have := h.ref.lt _ hm; omega⟩, h.below.trans (h1.toBelow h.base h.below.size)⟩
  · rcases hg b hb with h | h
    · exact .inl h
    · exact .inr (by omega)
  · rcases hg _ hm with h2 | h2
    · have := h.held.lt _ h2; omega
    · omega
theorem half_hit (h : Two w0 n m r k A F G wr) (hh : Held Try.prog Ti w m A1 F1) (hg : Grow F F1 (wr.alloc (.cells cs 52))) (ho : Only F (wr.alloc (.cells cs 52)) w) :
    Half w0 n m r A F G wr A1 F1 wr.heap.size cs w :=
  half_of h hh hg ((ho.keep (by rw [World.size_alloc]; omega) (fun hm => by have := h.held.lt _ hm; omega)).trans (heap_alloc_new wr _)) (ho.mono (fun x hx => List.mem_append.2 (.inl hx)))
/-- Both have turned. -/
structure SB (w0 : World) (n m r k : Nat) (A : AS Int) (F G : List Nat) (kv mv : Value) (bx : Nat) (cs : Array Value) (w : World) : Prop where
  st : St w0 n m r k A F G kv mv w
  box : w.heap[bx]? = some (.cells cs 52 (0, 0))
  off : bx ∉ F
  calm : A.making = []
theorem Half.done (h : Two w0 n m r k A F G wr) (hf : Half w0 n m r A F G wr A1 F1 bx cs w) (hr : RefHeld w' r A1 G2) (hg : Grow G G2 w) (ho : Only G w w') (hm : A1.most = A.most) {k' : Nat} (hk : k + 1 ≤ k') (hs : SmA A1 k') (hn : 1 ≤ n) (hk9 : k' ≤ 900) (hc : A1.making = []) :
    ∃ kv mv, SB w0 n m r k' A1 F1 G2 kv mv bx cs w' := by
  obtain ⟨j, rfl⟩ : ∃ j, k' = j + 1 := ⟨k' - 1, by omega⟩
  have ht := (h.mono (show k ≤ j by omega)).both hf.held hf.grow hf.only hr hg ho hm hs
  obtain ⟨kv, mv, hst⟩ := ht.st ⟨hn, hk9⟩
  exact ⟨kv, mv, hst, (ho.block _ (Array.getElem?_eq_some_iff.1 hf.box).1 hf.off.2).trans hf.box, hf.off.1, hc⟩
section
variable {kv mv : Value}
theorem SB.same (h : SB w0 n m r k A F G kv mv bx cs w) (hh : w'.heap = w.heap) (e1 : w'.os = w.os) (e2 : w'.tape = w.tape) (e3 : w'.output = w.output) : SB w0 n m r k A F G kv mv bx cs w' :=
  ⟨h.st.same hh e1 e2 e3, by rw [hh]; exact h.box, h.off, h.calm⟩
theorem SB.cells {c0 c1 : Value} (h : SB w0 n m r k A F G kv mv bx #[c0, c1] w) : w.cell? ⟨r, 1, none⟩ = some kv ∧ w.cell? ⟨bx, 0, none⟩ = some c0 :=
  ⟨h.st.cells.1, by rw [cell_of_row _ _ _ _ _ _ h.box]; rfl⟩
theorem SB.kept (h : SB w0 n m r k A F G kv mv bx cs w) : Calls Try.prog 15 #[.pointer (some ⟨m, 0, none⟩)] w fun e w' => ∃ v, e = .returned v ∧ OffRow 9 w' v ((keys A.kept).map Value.string) ∧ SB w0 n m r k A F G kv mv bx cs w' := by
  have := h.st.kb
  refine (KeptHI h.st.two.held (by rw [h.st.two.most]; omega) (h.st.two.sm.mono (by omega))).mono ?_
  rintro e w' ⟨v, rfl, h1, h2, h3, h4⟩
  exact ⟨v, rfl, h1, h.st.ofOnly h3 h4, (h4.block _ (Array.getElem?_eq_some_iff.1 h.box).1 h.off).trans h.box, h.off, h.calm⟩
theorem SB.making (h : SB w0 n m r k A F G kv mv bx cs w) : Calls Try.prog 10 #[.pointer (some ⟨m, 0, none⟩)] w fun e w' => ∃ A0 c0, e = .returned (.slice A0 0 c0) ∧ SB w0 n m r k A F G kv mv bx cs w' := by
  have := h.st.kb
  refine (MakingHI h.st.two.held (by rw [h.st.two.most]; omega) (h.st.two.sm.mono (by omega))).mono ?_
  rintro e w' ⟨v, rfl, h1, h2, h3, h4⟩
  rw [h.calm] at h1
  obtain ⟨A0, c0, rfl, _⟩ := h1.len
  exact ⟨A0, c0, rfl, h.st.ofOnly h3 h4, (h4.block _ (Array.getElem?_eq_some_iff.1 h.box).1 h.off).trans h.box, h.off, h.calm⟩
theorem SB.keysK (h : SB w0 n m r k A F G kv mv bx cs w) {v1 : Value} {l1 : List Value} (hv : OffRow 9 w v1 l1) : Calls Try.prog 16 #[kv] w fun e w' => ∃ v, e = .returned v ∧ OffRow 9 w' v ((keys A.kept).map Value.string) ∧ OffRow 9 w' v1 l1 ∧ SB w0 n m r k A F G kv mv bx cs w' := by
  have := h.st.kb
  obtain ⟨S, h1, h2, h3⟩ := h.st.at_
  have hsm := h.st.two.sm.kept
  rw [← h2] at hsm
  refine (keys_kept h1 (by simp [RS.abs] at hsm; omega)).mono ?_
  rintro e w' ⟨v, rfl, h4, h5, h6⟩
  rw [h2] at h4
  exact ⟨v, rfl, h4, hv.under h6, h.st.later h6, (h6.block _ (Array.getElem?_eq_some_iff.1 h.box).1).trans h.box, h.off, h.calm⟩
theorem SB.same14 (h : SB w0 n m r k A F G kv mv bx cs w) {v1 v2 : Value} {l : List ByteArray} (h1 : OffRow 9 w v1 (l.map Value.string)) (h2 : OffRow 9 w v2 (l.map Value.string)) :
    Calls Try.prog 14 #[v1, v2] w fun e w' => e = .returned (.bool true) ∧ SB w0 n m r k A F G kv mv bx cs w' := by
  refine (same_14 v1 v2 l w h1 h2).mono ?_
  rintro e w' ⟨rfl, q, rfl⟩
  exact ⟨rfl, h.same rfl rfl rfl rfl⟩
end
end
end
end
end Go.Proofs.Ytjghbcligjiaaaa
