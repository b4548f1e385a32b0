/- MemoKnown's walk. -/
import Derived.Test.YtjghbcligjiaaaaAwake
import Derived.Test.YtjghbcligjiaaaaGetS
import Derived.Test.YtjghbcligjiaaaaNone
import Derived.Test.YtjghbcligjiaaaaSame
namespace Go.Proofs.Ytjghbcligjiaaaa
open Go.RowKit Go.Maps Go.Sort Go.MuLone
set_option linter.unusedVariables false
set_option linter.unusedSimpArgs false
def kb : ByteArray := ⟨#[98]⟩
def kc : ByteArray := ⟨#[99]⟩
def kd : ByteArray := ⟨#[100]⟩
def yy : ByteArray := ⟨#[121]⟩
def zz : ByteArray := ⟨#[122]⟩
def bw : ByteArray := ⟨#[98, 119]⟩
def ks3 : AS ByteArray := ⟨2, [], [(ka, (1, [2, 3]))]⟩
def ks5 : AS ByteArray := ⟨2, [(ka, xx)], [(kb, (1, []))]⟩
def ks6 : AS ByteArray := ⟨2, [(ka, xx), (kb, yy)], []⟩
def ks7 : AS ByteArray := ⟨2, [(kb, yy), (ka, xx)], []⟩
def ks8 : AS ByteArray := ⟨2, [(kb, yy), (ka, xx)], [(kc, (1, []))]⟩
def ks9 : AS ByteArray := ⟨2, [(ka, xx), (kc, zz)], []⟩
def ks10 : AS ByteArray := ⟨2, [(kc, zz), (kb, bw)], []⟩
def ks11 : AS ByteArray := ⟨2, [(kc, zz), (kb, bw)], [(kd, (5, []))]⟩
theorem ab : ¬ ka = kb := by decide
theorem ac : ¬ ka = kc := by decide
theorem bc : ¬ kb = kc := by decide
theorem cb : ¬ kc = kb := by decide
theorem ba : ¬ kb = ka := by decide
theorem ca : ¬ kc = ka := by decide
theorem cd : ¬ kc = kd := by decide
theorem bd : ¬ kb = kd := by decide
theorem t1 : askA aw0 ka 1 = (aw1, .make) := rfl
theorem t2 : askA aw1 ka 2 = (aw2, .wait) := aw_ask2
theorem t3 : askA aw2 ka 3 = (ks3, .wait) := by simp [askA, aw2, ks3, getK_cons, getK_nil, setK]
theorem t4 : askA ks3 ka 2 = (ks3, .wait) := by simp [askA, ks3, getK_cons, getK_nil, setK]
theorem t5 : askA ks3 ka 1 = (ks3, .own) := by simp [askA, ks3, getK_cons, getK_nil, setK]
theorem t6 : giveA ks3 ka 2 xx = (ks3, none) := by simp [giveA, ks3, getK_cons, getK_nil]
theorem t7 : giveA ks3 ka 1 xx = (aw3, some [2, 3]) := by simp [giveA, ks3, aw3, getK_cons, getK_nil, dropK]
theorem t8 : askA aw3 ka 2 = (aw3, .hit xx) := aw_ask3
theorem t9 : askA aw3 kb 1 = (ks5, .make) := by simp [askA, aw3, ks5, getK_cons, getK_nil, ab]
theorem t10 : giveA ks5 kb 1 yy = (ks6, some []) := by simp [giveA, ks5, ks6, getK_cons, getK_nil, dropK]
theorem t11 : askA ks6 ka 1 = (ks7, .hit xx) := by simp [askA, ks6, ks7, getK_cons, getK_nil, dropK, ba]
theorem t12 : askA ks7 kc 1 = (ks8, .make) := by simp [askA, ks7, ks8, getK_cons, getK_nil, ac, bc]
theorem t13 : giveA ks8 kc 1 zz = (ks9, some []) := by simp [giveA, ks8, ks9, getK_cons, getK_nil, dropK]
theorem t14 : (askA ks9 kb 1).2 = .make := by simp [askA, ks9, getK_cons, getK_nil, ab, cb]
theorem t15 : (giveA (askA ks9 kb 1).1 kb 1 bw).1 = ks10 := by simp [askA, giveA, ks9, ks10, getK_cons, getK_nil, ab, cb, dropK]
theorem t16 : askA ks10 kd 5 = (ks11, .make) := by simp [askA, ks10, ks11, getK_cons, getK_nil, cd, bd]
theorem t17 : askA ks11 kd 5 = (ks11, .own) := by simp [askA, ks11, getK_cons, getK_nil, cd, bd]
theorem sm_all : SmA ks3 1000000 ∧ SmA ks5 1000000 ∧ SmA ks6 1000000 ∧ SmA ks7 1000000 ∧ SmA ks8 1000000 ∧ SmA ks9 999999 ∧ SmA ks10 1000000 ∧ SmA ks11 1000000 :=
  ⟨⟨by decide, by decide, by simp [ks3]⟩, ⟨by decide, by decide, by simp [ks5]⟩, ⟨by decide, by decide, by simp [ks6]⟩, ⟨by decide, by decide, by simp [ks7]⟩, ⟨by decide, by decide, by simp [ks8]⟩, ⟨by decide, by decide, by simp [ks9]⟩, ⟨by decide, by decide, by simp [ks10]⟩, ⟨by decide, by decide, by simp [ks11]⟩⟩
theorem kb_size : kb.size ≤ maxLen := by decide
theorem kc_size : kc.size ≤ maxLen := by decide
theorem kd_size : kd.size ≤ maxLen := by decide
theorem yy_size : yy.size ≤ maxLen := by decide
theorem zz_size : zz.size ≤ maxLen := by decide
theorem bw_size : bw.size ≤ maxLen := by decide
theorem words_made (W : World) : Calls Try.prog 32 #[.agg #[], .string kb] W fun e W' => e = .returned (.string bw) ∧ Only [] W W' ∧ True := by
  go_enter Try.func32, Try.ntmps32
  go_wp2_with fail
  go_ret
  exact ⟨by rfl, alloc_only, trivial⟩
/-- What the walk keeps. -/
structure KI (w0 : World) (m : Nat) (A : AS ByteArray) (F : List Nat) (w : World) : Prop where
  held : Held Try.prog Ts w m A F
  base : ∀ b ∈ F, w0.heap.size ≤ b
  below : Below w0.heap.size w0 w
section
variable {w0 w w' : World} {m : Nat} {A A' : AS ByteArray} {F F' G : List Nat}
theorem KI.step (h : KI w0 m A F w) (hh : Held Try.prog Ts w' m A' F') (hg : Grow F F' w) (ho : Only F w w') : KI w0 m A' F' w' :=
  ⟨hh, hg.base h.base h.below.size, h.below.trans (ho.toBelow h.base h.below.size)⟩
theorem KI.same (h : KI w0 m A F w) (hh : Held Try.prog Ts w' m A F) (ho : Only F w w') : KI w0 m A F w' :=
  ⟨hh, h.base, h.below.trans (ho.toBelow h.base h.below.size)⟩
theorem KI.aside (h : KI w0 m A F w) (ho : Only [] w w') : KI w0 m A F w' :=
  ⟨h.held.other ho (fun b _ hm => by cases hm), h.base, h.below.trans (ho.toBelow (fun b hb => by cases hb) h.below.size)⟩
end
def kst : Nat → AS ByteArray := fun k => match k with | 0 => aw0 | 1 => aw1 | 2 => aw2 | _ => ks3
theorem only_same {w w' : World} {q : Nat} (h : w' = w.drewN q) : Only [] w w' := by
  subst h; exact ⟨rfl, rfl, rfl, Nat.le_refl _, fun _ _ _ => rfl⟩
def arrA : Obj := .cells #[.int .i64 2, .int .i64 3, .int .i64 3, .int .i64 3, .int .i64 0] 26
def arrW : Obj := .cells #[.int .i64 1, .int .i64 2, .int .i64 3, .int .i64 2, .int .i64 1] 3
def arrE : Obj := .cells #[.int .i32 0, .int .u32 0, .int .i64 0, .map none, .slice none 0 0, .map none, .slice none 0 0] 81
/-- What the loop keeps. -/
structure KL (w0 : World) (m : Nat) (A : AS ByteArray) (F : List Nat) (b : Nat) (w : World) : Prop where
  ki : KI w0 m A F w
  a : w.heap[b]? = some (.cells #[.int .i64 2, .int .i64 3, .int .i64 3, .int .i64 3, .int .i64 0] 26 (0, 0))
  w : w.heap[b + 1]? = some (.cells #[.int .i64 1, .int .i64 2, .int .i64 3, .int .i64 2, .int .i64 1] 3 (0, 0))
  na : b ∉ F
  nw : b + 1 ∉ F
theorem KL.step {w0 w w' : World} {m b : Nat} {A A' : AS ByteArray} {F F' : List Nat} (h : KL w0 m A F b w) (hh : Held Try.prog Ts w' m A' F') (hg : Grow F F' w) (ho : Only F w w') : KL w0 m A' F' b w' := by
  have h1 := (Array.getElem?_eq_some_iff.1 h.a).1
  have h2 := (Array.getElem?_eq_some_iff.1 h.w).1
  exact ⟨h.ki.step hh hg ho, (ho.block _ h1 h.na).trans h.a, (ho.block _ h2 h.nw).trans h.w, hg.off h.na h1, hg.off h.nw h2⟩
set_option maxRecDepth 100000 in
set_option maxHeartbeats 6400000 in
theorem lawKnown (w : World) : Calls Try.prog 7 #[] w fun e w' => e = .returned (.bool true) ∧ Below w.heap.size w w' := by
  have HN := Lib.hid (NewHS 2 w (by decide) (by decide))
  go_enter Try.func7, Try.ntmps7
  go_wp2_with (go_at_call 24; go_must (refine HN.out.mono ?_; rintro e w1 ⟨m, F0, rfl, h1, hf1, hb1⟩; have HI := Lib.hid (KI.mk (A := aw0) h1 hf1 hb1); clear h1 hf1 hb1))
  obtain ⟨bA, hbA⟩ : ∃ b, w1.heap.size = b := ⟨_, rfl⟩
  have hnA : bA ∉ F0 := fun hm => by have := HI.out.held.lt _ hm; omega
  have hnW : bA + 1 ∉ F0 := fun hm => by have := HI.out.held.lt _ hm; omega
  have hi2 := (HI.out.aside (alloc_only (o := arrA))).aside (alloc_only (o := arrW))
  have hA2 : ((w1.alloc arrA).alloc arrW).heap[bA]? = some arrA := by
    rw [Go.heap_alloc_old _ _ (by rw [World.size_alloc]; omega), ← hbA]; exact heap_alloc_new w1 _
  have hW2 : ((w1.alloc arrA).alloc arrW).heap[bA + 1]? = some arrW := by
    have := heap_alloc_new (w1.alloc arrA) arrW
    rw [World.size_alloc, hbA] at this
    exact this
  rw [hbA]
  change Code.wp _ _ _ _ ((w1.alloc arrA).alloc arrW)
  generalize (w1.alloc arrA).alloc arrW = w2 at hi2 hA2 hW2 ⊢
  have HL := Lib.hid (KL.mk hi2 hA2 hW2 hnA hnW)
  clear hi2 hA2 hW2 hnA hnW HI HN hbA
  go_loopw [4] (fun i wr => ∃ (k : Nat) (F : List Nat), i = .int .i64 k ∧ k ≤ 5 ∧ KL w m (kst k) F bA wr) (fun i _ => 5 - (intOf i).toNat)
  case atStart => exact ⟨0, _, rfl, by omega, HL.out⟩
  case round =>
    obtain ⟨k, F, rfl, hk, hkl⟩ := hrel
    have HK := Lib.hid hkl
    clear hkl HL
    by_cases hlt : k < 5
    · have hcases : k = 0 ∨ k = 1 ∨ k = 2 ∨ k = 3 ∨ k = 4 := by omega
      rcases hcases with rfl | rfl | rfl | rfl | rfl
      · have q1 : wr.cell? ⟨bA, 0, none⟩ = some (.int .i64 2) := by rw [cell_of_row _ _ _ _ _ _ HK.out.a]; rfl
        have q2 : wr.cell? ⟨bA + 1, 0, none⟩ = some (.int .i64 1) := by rw [cell_of_row _ _ _ _ _ _ HK.out.w]; rfl
        go_wp2_with fail
        have c := AskHS (A := aw0) ka 1 HK.out.ki.held (by decide) ka_size sm_0
        rw [t1] at c
        refine c.mono ?_
        clear c
        rintro e w3 ⟨rfl, F2, h3, h4, h5⟩
        have hkl := HK.out.step h3 h4 h5
        have q3 : w3.cell? ⟨bA, 0, none⟩ = some (.int .i64 2) := by rw [cell_of_row _ _ _ _ _ _ hkl.a]; rfl
        have HK2 := Lib.hid hkl
        clear h3 h4 h5 hkl
        simp only [askOut]
        go_wp2_with fail
        go_roundw
        case rel => exact ⟨1, F2, by go_num, by omega, HK2.out⟩
        case measure => simp [intOf]
      · have q1 : wr.cell? ⟨bA, 1, none⟩ = some (.int .i64 3) := by rw [cell_of_row _ _ _ _ _ _ HK.out.a]; rfl
        have q2 : wr.cell? ⟨bA + 1, 1, none⟩ = some (.int .i64 2) := by rw [cell_of_row _ _ _ _ _ _ HK.out.w]; rfl
        go_wp2_with fail
        have c := AskHS (A := aw1) ka 2 HK.out.ki.held (by decide) ka_size sm_1
        rw [t2] at c
        refine c.mono ?_
        clear c
        rintro e w3 ⟨rfl, F2, h3, h4, h5⟩
        have hkl := HK.out.step h3 h4 h5
        have q3 : w3.cell? ⟨bA, 1, none⟩ = some (.int .i64 3) := by rw [cell_of_row _ _ _ _ _ _ hkl.a]; rfl
        have HK2 := Lib.hid hkl
        clear h3 h4 h5 hkl
        simp only [askOut]
        go_wp2_with fail
        go_roundw
        case rel => exact ⟨2, F2, by go_num, by omega, HK2.out⟩
        case measure => simp [intOf]
      · have q1 : wr.cell? ⟨bA, 2, none⟩ = some (.int .i64 3) := by rw [cell_of_row _ _ _ _ _ _ HK.out.a]; rfl
        have q2 : wr.cell? ⟨bA + 1, 2, none⟩ = some (.int .i64 3) := by rw [cell_of_row _ _ _ _ _ _ HK.out.w]; rfl
        go_wp2_with fail
        have c := AskHS (A := aw2) ka 3 HK.out.ki.held (by decide) ka_size sm_2
        rw [t3] at c
        refine c.mono ?_
        clear c
        rintro e w3 ⟨rfl, F2, h3, h4, h5⟩
        have hkl := HK.out.step h3 h4 h5
        have q3 : w3.cell? ⟨bA, 2, none⟩ = some (.int .i64 3) := by rw [cell_of_row _ _ _ _ _ _ hkl.a]; rfl
        have HK2 := Lib.hid hkl
        clear h3 h4 h5 hkl
        simp only [askOut]
        go_wp2_with fail
        go_roundw
        case rel => exact ⟨3, F2, by go_num, by omega, HK2.out⟩
        case measure => simp [intOf]
      · have q1 : wr.cell? ⟨bA, 3, none⟩ = some (.int .i64 3) := by rw [cell_of_row _ _ _ _ _ _ HK.out.a]; rfl
        have q2 : wr.cell? ⟨bA + 1, 3, none⟩ = some (.int .i64 2) := by rw [cell_of_row _ _ _ _ _ _ HK.out.w]; rfl
        go_wp2_with fail
        have c := AskHS (A := ks3) ka 2 HK.out.ki.held (by decide) ka_size sm_all.1
        rw [t4] at c
        refine c.mono ?_
        clear c
        rintro e w3 ⟨rfl, F2, h3, h4, h5⟩
        have hkl := HK.out.step h3 h4 h5
        have q3 : w3.cell? ⟨bA, 3, none⟩ = some (.int .i64 3) := by rw [cell_of_row _ _ _ _ _ _ hkl.a]; rfl
        have HK2 := Lib.hid hkl
        clear h3 h4 h5 hkl
        simp only [askOut]
        go_wp2_with fail
        go_roundw
        case rel => exact ⟨4, F2, by go_num, by omega, HK2.out⟩
        case measure => simp [intOf]
      · have q1 : wr.cell? ⟨bA, 4, none⟩ = some (.int .i64 0) := by rw [cell_of_row _ _ _ _ _ _ HK.out.a]; rfl
        have q2 : wr.cell? ⟨bA + 1, 4, none⟩ = some (.int .i64 1) := by rw [cell_of_row _ _ _ _ _ _ HK.out.w]; rfl
        go_wp2_with fail
        have c := AskHS (A := ks3) ka 1 HK.out.ki.held (by decide) ka_size sm_all.1
        rw [t5] at c
        refine c.mono ?_
        clear c
        rintro e w3 ⟨rfl, F2, h3, h4, h5⟩
        have hkl := HK.out.step h3 h4 h5
        have q3 : w3.cell? ⟨bA, 4, none⟩ = some (.int .i64 0) := by rw [cell_of_row _ _ _ _ _ _ hkl.a]; rfl
        have HK2 := Lib.hid hkl
        clear h3 h4 h5 hkl
        simp only [askOut]
        go_wp2_with fail
        go_roundw
        case rel => exact ⟨5, F2, by go_num, by omega, HK2.out⟩
        case measure => simp [intOf]
    · have hke : k = 5 := by omega
      subst hke
      have HK5 := Lib.hid (show KI w m ks3 F wr from HK.out.ki)
      clear HK hlt

      go_wp2_with fail
      have c := GiveHS (A := ks3) ka 2 xx HK5.out.held ka_size xx_size (by decide) (by decide) sm_all.1
      rw [t6] at c
      refine c.mono ?_
      clear c
      rintro e v1 ⟨gv1, gc1, F11, rfl, ⟨rfl, rfl⟩, h3, h4, h5⟩
      have hkl := HK5.out.step h3 h4 h5
      have HI1 := Lib.hid hkl
      clear h3 h4 h5 hkl
      go_wp2_with fail
      have c := GiveHS (A := ks3) ka 1 xx HI1.out.held ka_size xx_size (by decide) (by decide) sm_all.1
      rw [t7] at c
      refine c.mono ?_
      clear c
      rintro e v2 ⟨gv2, gc2, F12, rfl, ⟨hr, rfl, hq⟩, h3, h4, h5⟩
      have hkl := HI1.out.step h3 h4 h5
      have HI2 := Lib.hid hkl
      clear h3 h4 h5 hkl
      obtain ⟨g, off, cap, rfl, x1, x2, x3, x4⟩ := hr.form (by simp)
      have hq2 := (hq g rfl).2
      have HR := Lib.hid hr
      have HQ := Lib.hid hq2
      clear hr hq hq2 x1 x2 x3 x4
      go_wp2_with fail
      have c := AskHS (A := aw3) ka 2 HI2.out.held (by decide) ka_size sm_3
      rw [t8] at c
      refine c.mono ?_
      clear c
      rintro e v3 ⟨rfl, F13, h3, h4, h5⟩
      have hkl := HI2.out.step h3 h4 h5
      have HI3 := Lib.hid hkl
      have HO3 := Lib.hid h5
      clear h3 h4 h5 hkl
      simp only [askOut]
      have hr5 := HR.out.other HO3.out (fun q hq => by simp [Value.ownBlock] at hq; rw [← hq]; exact HQ.out)
      have hl0 : v3.cell? ⟨g, off, none⟩ = some (.int .i64 2) := by have := hr5.cellsAt g off rfl 0 _ rfl; simpa using this
      have hl1 : v3.cell? ⟨g, off + 1, none⟩ = some (.int .i64 3) := by have := hr5.cellsAt g off rfl 1 _ rfl; simpa using this
      have hxx : xx.toList = [120] := by rw [ByteArray.toList_eq]; rfl
      clear hr5
      go_wp2_with fail
      have c := WaitingHS (A := aw3) ka HI3.out.held ka_size (by decide) sm_3
      refine c.mono ?_
      clear c
      rintro e v4 ⟨vw, rfl, h1, h2, h3, h4⟩
      have hkl := HI3.out.same h3 h4
      have hwn : waitA aw3 ka = [] := rfl
      rw [hwn] at h1
      obtain ⟨Aw, cw, rfl, hmw⟩ := h1.len
      have HI4 := Lib.hid hkl
      clear h1 h2 h3 h4 hkl hmw hwn hl0 hl1 HR HQ HO3
      go_wp2_with fail
      have c := AskHS (A := aw3) kb 1 HI4.out.held (by decide) kb_size sm_3
      rw [t9] at c
      refine c.mono ?_
      clear c
      rintro e v5 ⟨rfl, F15, h3, h4, h5⟩
      have hkl := HI4.out.step h3 h4 h5
      have HI5 := Lib.hid hkl
      have HO5 := Lib.hid h5
      clear h3 h4 h5 hkl
      simp only [askOut]
      go_wp2_with fail
      have c := GiveHS (A := ks5) kb 1 yy HI5.out.held kb_size yy_size (by decide) (by decide) sm_all.2.1
      rw [t10] at c
      refine c.mono ?_
      clear c
      rintro e v6 ⟨gv6, gc6, F16, rfl, ⟨_, rfl, _⟩, h3, h4, h5⟩
      have hkl := HI5.out.step h3 h4 h5
      have HI6 := Lib.hid hkl
      clear h3 h4 h5 hkl
      go_wp2_with fail
      have c := AskHS (A := ks6) ka 1 HI6.out.held (by decide) ka_size sm_all.2.2.1
      rw [t11] at c
      refine c.mono ?_
      clear c
      rintro e v7 ⟨rfl, F17, h3, h4, h5⟩
      have hkl := HI6.out.step h3 h4 h5
      have HI7 := Lib.hid hkl
      have HO7 := Lib.hid h5
      clear h3 h4 h5 hkl
      simp only [askOut]
      go_wp2_with fail
      have c := AskHS (A := ks7) kc 1 HI7.out.held (by decide) kc_size sm_all.2.2.2.1
      rw [t12] at c
      refine c.mono ?_
      clear c
      rintro e v8 ⟨rfl, F18, h3, h4, h5⟩
      have hkl := HI7.out.step h3 h4 h5
      have HI8 := Lib.hid hkl
      have HO8 := Lib.hid h5
      clear h3 h4 h5 hkl
      simp only [askOut]
      go_wp2_with fail
      have c := MakingHS (A := ks8) HI8.out.held (by decide) sm_all.2.2.2.2.1
      refine c.mono ?_
      clear c
      rintro e v9 ⟨lv9, rfl, h1, h2, h3, h4⟩
      have hkl := HI8.out.same h3 h4
      have hlst : keys (ks8 : AS ByteArray).making = [kc] := rfl
      rw [hlst] at h1
      have HI9 := Lib.hid hkl
      have HL9 := Lib.hid h1
      clear h1 h2 h3 h4 hkl hlst
      go_wp2_with fail
      have c := same_28 lv9 (.slice (some ⟨v9.heap.size, 0, none⟩) 1 1) [kc] (v9.alloc (.cells #[.string kc] 9)) (HL9.out.keep (fun q hq => Go.heap_alloc_old v9 _ (HL9.out.lt q hq))) (OffRow.made v9 #[.string kc] (by decide))
      refine c.mono ?_
      clear c
      rintro e v10 ⟨rfl, q10, hvq⟩
      have hkl := (HI9.out.aside (alloc_only (o := .cells #[.string kc] 9))).aside (only_same (w' := v10) hvq)
      have HI10 := Lib.hid hkl
      clear hvq hkl
      go_wp2_with fail
      have c := GiveHS (A := ks8) kc 1 zz HI10.out.held kc_size zz_size (by decide) (by decide) sm_all.2.2.2.2.1
      rw [t13] at c
      refine c.mono ?_
      clear c
      rintro e v11 ⟨gv11, gc11, F21, rfl, ⟨_, rfl, _⟩, h3, h4, h5⟩
      have hkl := HI10.out.step h3 h4 h5
      have HI11 := Lib.hid hkl
      clear h3 h4 h5 hkl
      go_wp2_with fail
      have c := KeptHS (A := ks9) HI11.out.held (by decide) (sm_all.2.2.2.2.2.1.mono (by omega))
      refine c.mono ?_
      clear c
      rintro e v12 ⟨lv12, rfl, h1, h2, h3, h4⟩
      have hkl := HI11.out.same h3 h4
      have hlst : keys (ks9 : AS ByteArray).kept = [ka, kc] := rfl
      rw [hlst] at h1
      have HI12 := Lib.hid hkl
      have HL12 := Lib.hid h1
      clear h1 h2 h3 h4 hkl hlst
      go_wp2_with fail
      have c := same_28 lv12 (.slice (some ⟨v12.heap.size, 0, none⟩) 2 2) [ka, kc] (v12.alloc (.cells #[.string ka, .string kc] 9)) (HL12.out.keep (fun q hq => Go.heap_alloc_old v12 _ (HL12.out.lt q hq))) (OffRow.made v12 #[.string ka, .string kc] (by decide))
      refine c.mono ?_
      clear c
      rintro e v13 ⟨rfl, q13, hvq⟩
      have hkl := (HI12.out.aside (alloc_only (o := .cells #[.string ka, .string kc] 9))).aside (only_same (w' := v13) hvq)
      have HI13 := Lib.hid hkl
      clear hvq hkl
      go_wp2_with fail
      have c := Get_makeS (A := ks9) kb 1 (.agg #[]) bw 32 [] (fun args W => enters_of Try.func32 (by decide +kernel) rfl args W) HI13.out.held (by decide) (by decide) kb_size bw_size sm_all.2.2.2.2.2.1 t14 (fun b hb => by cases hb) (fun _ => True) (fun _ _ _ _ => trivial) (fun W _ => words_made W)
      rw [t15] at c
      refine c.mono ?_
      clear c
      rintro e v14 ⟨rfl, F24, h3, h4, h5, _⟩
      have hkl := HI13.out.step h3 h4 (by simpa using h5)
      have HI14 := Lib.hid hkl
      clear h3 h4 h5 hkl
      go_wp2_with fail
      have c := AskHS (A := ks10) kd 5 HI14.out.held (by decide) kd_size sm_all.2.2.2.2.2.2.1
      rw [t16] at c
      refine c.mono ?_
      clear c
      rintro e v15 ⟨rfl, F25, h3, h4, h5⟩
      have hkl := HI14.out.step h3 h4 h5
      have HI15 := Lib.hid hkl
      have HO15 := Lib.hid h5
      clear h3 h4 h5 hkl
      simp only [askOut]
      go_wp2_with fail
      have c := Get_ownS (A := ks11) kd 5 (.func (.func 32) #[.agg #[]] #[]) HI15.out.held (by decide) kd_size sm_all.2.2.2.2.2.2.2 (by rw [t17])
      rw [t17] at c
      refine c.mono ?_
      clear c
      rintro e v16 ⟨rfl, F26, h3, h4, h5⟩
      have hkl := HI15.out.step h3 h4 h5
      have HI16 := Lib.hid hkl
      clear h3 h4 h5 hkl
      go_wp2_with fail
      have hE : (v16.alloc arrE).heap[v16.heap.size]? = some arrE := heap_alloc_new v16 _
      have hiE := HI16.out.aside (alloc_only (o := arrE))
      have hnE : v16.heap.size ∉ F26 := fun hm => by have := HI16.out.held.lt _ hm; omega
      obtain ⟨be, hbe⟩ : ∃ b, v16.heap.size = b := ⟨_, rfl⟩
      rw [hbe] at hE hnE ⊢
      change Calls _ _ _ (v16.alloc arrE) _
      generalize v16.alloc arrE = vE at hE hiE ⊢
      have HIE := Lib.hid hiE
      have HE := Lib.hid hE
      have HNE := Lib.hid hnE
      clear hiE hE hnE hbe HI16
      have c2 : vE.cell? ⟨be, 2, none⟩ = some (.int .i64 0) := by rw [cell_of_row _ _ _ _ _ _ HE.out]; rfl
      refine (Ask_nil _ _ vE).mono ?_
      rintro e vv ⟨rfl, hv⟩
      have hv2 := hv.symm
      subst hv2
      go_wp2_with fail
      refine (Give_empty be _ _ _ vE c2).mono ?_
      rintro e vv ⟨rfl, hv⟩
      have hv2 := hv.symm
      subst hv2
      go_wp2_with fail
      refine (Get_nil _ _ _ vE).mono ?_
      rintro e vv ⟨rfl, hv⟩
      have hv2 := hv.symm
      subst hv2
      have hbw : bw.toList = [98, 119] := by rw [ByteArray.toList_eq]; rfl
      clear c2
      go_wp2_with fail
      have c := KeptHS (A := ks11) HIE.out.held (by decide) sm_all.2.2.2.2.2.2.2
      refine c.mono ?_
      clear c
      rintro e x1 ⟨lx, rfl, h1, h2, h3, h4⟩
      have hkl := HIE.out.same h3 h4
      have hlst : keys (ks11 : AS ByteArray).kept = [kc, kb] := rfl
      rw [hlst] at h1
      have hbl := (Array.getElem?_eq_some_iff.1 HE.out).1
      have hE1 := (h4.block be hbl HNE.out).trans HE.out
      have HIx := Lib.hid hkl
      have HLx := Lib.hid h1
      have HE1 := Lib.hid hE1
      clear h1 h2 h3 h4 hkl hlst hbl hE1
      go_wp2_with fail
      have c := same_28 lx (.slice (some ⟨x1.heap.size, 0, none⟩) 2 2) [kc, kb] (x1.alloc (.cells #[.string kc, .string kb] 9)) (HLx.out.keep (fun q hq => Go.heap_alloc_old x1 _ (HLx.out.lt q hq))) (OffRow.made x1 #[.string kc, .string kb] (by decide))
      refine c.mono ?_
      clear c
      rintro e x2 ⟨rfl, q2, hvq⟩
      have hkl := (HIx.out.aside (alloc_only (o := .cells #[.string kc, .string kb] 9))).aside (only_same (w' := x2) hvq)
      have hbl := (Array.getElem?_eq_some_iff.1 HE1.out).1
      have hE2 : x2.heap[be]? = some arrE := by rw [hvq]; exact (Go.heap_alloc_old x1 _ hbl).trans HE1.out
      have c2 : x2.cell? ⟨be, 2, none⟩ = some (.int .i64 0) := by rw [cell_of_row _ _ _ _ _ _ hE2]; rfl
      have HIy := Lib.hid hkl
      clear hvq hkl hbl hE2
      go_wp2_with fail
      refine (Kept_nil x2).mono ?_
      rintro e vv ⟨rfl, hv⟩
      have hv2 := hv.symm
      subst hv2
      go_wp2_with fail
      refine (Making_empty be x2 c2).mono ?_
      rintro e vv ⟨rfl, hv⟩
      have hv2 := hv.symm
      subst hv2
      go_wp2_with fail
      refine (Waiting_nil _ x2).mono ?_
      rintro e vv ⟨rfl, hv⟩
      have hv2 := hv.symm
      subst hv2
      go_wp2_with fail
      refine (New_noneI 0 x2 (by omega)).mono ?_
      rintro e vv ⟨rfl, hv⟩
      have hv2 := hv.symm
      subst hv2
      go_wp2_with fail
      refine (New_noneI 65 x2 (by omega)).mono ?_
      rintro e vv ⟨rfl, hv⟩
      have hv2 := hv.symm
      subst hv2
      go_wp2_with fail
      refine (NewHI 64 x2 (by decide) (by decide)).mono ?_
      rintro e x3 ⟨m3, F3, rfl, h1, h2, h3⟩
      have hb3 := HIy.out.below.trans (h3.mono HIy.out.below.size)
      have HB3 := Lib.hid hb3
      clear h1 h2 h3 hb3
      go_wp2_with fail
      refine (awake_any x3).mono ?_
      rintro e x4 ⟨rfl, hb⟩
      have HB4 := Lib.hid (HB3.out.trans (hb.mono HB3.out.size))
      clear hb
      go_wp2_with fail
      go_ret
      exact ⟨rfl, HB4.out⟩
end Go.Proofs.Ytjghbcligjiaaaa
