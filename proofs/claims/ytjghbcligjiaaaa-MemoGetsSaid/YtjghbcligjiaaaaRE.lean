/- MemoGets' walk. -/
import Derived.Test.YtjghbcligjiaaaaRD
import Derived.Deep.RegionHeld3
namespace Go.Proofs.Ytjghbcligjiaaaa
open Go.RowKit Go.Maps Go.Sort Go.MuLone
set_option linter.unusedVariables false
set_option linter.unusedSimpArgs false
theorem gets_none (w : World) (most : Int) (av : Value) (h : most < 1 ∨ 64 < most) : Calls Try.prog 6 #[.int .i64 most, av] w fun e w' => e = .returned (.bool true) ∧ Below w.heap.size w w' := by
  have HN := Lib.hid (New_noneI most w h)
  rcases h with h | h
  · go_enter Try.func6, Try.ntmps6
    go_wp2_with (go_at_call 8; refine HN.out.mono ?_; rintro e w1 ⟨rfl, rfl⟩)
    refine (awake_any _).mono ?_
    rintro e w2 ⟨rfl, hb⟩
    go_wp2_with fail
    go_ret
    exact ⟨rfl, hb⟩
  · have h1 : ¬ most < 1 := by omega
    go_enter Try.func6, Try.ntmps6
    go_wp2_with (go_at_call 8; refine HN.out.mono ?_; rintro e w1 ⟨rfl, rfl⟩)
    refine (awake_any _).mono ?_
    rintro e w2 ⟨rfl, hb⟩
    go_wp2_with fail
    go_ret
    exact ⟨rfl, hb⟩
theorem gkey_at {w : World} {B : Nat} {A : Option Addr} {l : List ByteArray} {k : Nat} {s : ByteArray} (h : RowOf strCells 1 w B A l) (hx : l[k]? = some s) : ∃ b off, A = some ⟨b, off, none⟩ ∧ b < B ∧ w.cell? ⟨b, off + k, none⟩ = some (.string s) := by
  have hlt : 0 < l.length := by
    cases l with
    | nil => simp at hx
    | cons _ _ => simp
  obtain ⟨b, off, e, hb, hc⟩ := h hlt
  have := hc k s hx 0 _ rfl
  exact ⟨b, off, e, hb, by simpa using this⟩
set_option maxRecDepth 100000 in
set_option maxHeartbeats 3200000 in
theorem lawGets (w : World) (n : Nat) (h1 : 1 ≤ n) (h2 : n ≤ 64) (A0 : Option Addr) (c0 : Nat) (l : List ByteArray) (hl : l.length ≤ 9223372036854775807) (hr : RowOf strCells 1 w w.heap.size A0 l) (hg : ∀ a ∈ l, a.size ≤ maxLen) :
    Calls Try.prog 6 #[.int .i64 (n : Int), .slice A0 l.length c0] w fun e w' => e = .returned (.bool true) ∧ Below w.heap.size w w' := by
  have HN := Lib.hid (NewHI n w h1 h2)
  have HR := Lib.hid hr
  have HG := Lib.hid hg
  clear hr hg
  go_enter Try.func6, Try.ntmps6
  go_wp2_with fail
  refine HN.out.mono ?_
  rintro e w1 ⟨m, F0, rfl, h3, h4, h5⟩
  have hi : Two w n m w1.heap.size 0 ⟨n, [], []⟩ F0 [w1.heap.size] (w1.alloc (.cells #[.int .i64 (n : Int), .slice none 0 0, .slice none 0 0] 40)) :=
    ⟨h3.other (alloc_only (F := [])) (fun b hb => by simp), ref_new w1 n, fun b hb hm => by (simp at hm; have := h3.lt b hb; omega), h4, fun b hb => by (simp at hb; have := h5.size; omega), h5.alloc h5.size _, rfl, ⟨Nat.zero_le _, Nat.zero_le _, fun p hp => by cases hp⟩⟩
  have HI := Lib.hid hi
  clear h3 h4 h5 hi
  go_wp2_with fail
  go_loopw [7] (fun i wr => ∃ (k : Nat) (A : AS Int) (F G : List Nat), i = .int .i64 k ∧ k ≤ l.length ∧ k ≤ 200 ∧ A.making = [] ∧ Two w n m w1.heap.size (2 * k) A F G wr) (fun i _ => l.length - (intOf i).toNat)
  case atStart => exact ⟨0, _, _, _, rfl, Nat.zero_le _, Nat.zero_le _, rfl, HI.out⟩
  case round =>
    obtain ⟨k, A, F, G, rfl, hk, hk2, hcalm, hinv⟩ := hrel
    have HV := Lib.hid hinv
    have HCALM := Lib.hid hcalm
    clear hinv HI hcalm
    generalize w1.heap.size = r at HV ⊢
    by_cases hlt : k < l.length
    · by_cases hlt2 : k < 200
      · obtain ⟨s, hs⟩ : ∃ s, l[k]? = some s := ⟨_, List.getElem?_eq_getElem hlt⟩
        obtain ⟨b, off, rfl, hbw, d0⟩ := gkey_at (HR.out.below HV.out.below (Nat.le_refl _)) hs
        have hsz := HG.out s (List.mem_of_getElem? hs)
        have HSZ := Lib.hid hsz
        have HS := Lib.hid hs
        clear hs hsz
        have hltb : b < wr.heap.size := by have := HV.out.below.size; omega
        have d0a : ∀ cs, (wr.alloc (.cells cs 52)).cell? ⟨b, off + k, none⟩ = some (.string s) := fun cs => (World.cell?_alloc_lt (a := ⟨b, off + k, none⟩) _ _ hltb).trans d0
        go_wp2_with fail
        have hv0 : ∀ cs, Two w n m r (2 * k) A F G (wr.alloc (.cells cs 52)) := fun cs => HV.out.later (H := []) alloc_only (fun b hb => by cases hb)
        have HV0 := Lib.hid hv0
        clear hv0
        rcases askA_calm HCALM.out s (k : Int) with ⟨x, hx, hc1⟩ | hmk
        · refine Calls.mono (Get_hitI s (k : Int) _ x (HV0.out _).held (by rw [HV.out.most]; omega) HSZ.out (HV.out.sm.mono (by omega)) hx) ?_
          rintro e w2 ⟨rfl, F1, h3, h4, h5⟩
          have hsm := askA_sm HV.out.sm s (k : Int)
          have hmo := askA_most A s (k : Int)
          have hR := fun w1 (h1 : RefHeld w1 r A G) => RefAsk s (k : Int) h1 (HV.out.sm.mono (by omega))
          simp only [hx] at hR
          obtain ⟨A1, hA1⟩ : ∃ A1, (askA A s (k : Int)).1 = A1 := ⟨_, rfl⟩
          rw [hA1] at h3 hsm hmo hc1
          simp only [hA1] at hR
          have hf := half_hit HV.out h3 h4 h5
          have d1 := (gkey_at (HR.out.below hf.below (Nat.le_refl _)) HS.out)
          obtain ⟨b', off', e9, _, d1⟩ := d1
          simp only [Option.some.injEq, Addr.mk.injEq, and_true] at e9
          obtain ⟨rfl, rfl⟩ := e9
          have HF := Lib.hid hf
          have HRR := Lib.hid hR
          have HSM := Lib.hid hsm
          have HMO := Lib.hid hmo
          have HC1 := Lib.hid hc1
          clear h3 h4 h5 hf hR hsm hmo hc1 hx hA1 d0 d0a
          go_wp2_with fail
          refine Calls.mono (HRR.out _ HF.out.ref) ?_
          rintro e w3 ⟨rfl, G2, h3, h4, h5⟩
          obtain ⟨kv, mv, hsb⟩ := HF.out.done HV.out h3 h4 h5 HMO.out (k' := 2 * k + 1) (by omega) HSM.out h1 (by omega) HC1.out
          obtain ⟨q1, q2⟩ := hsb.cells
          have HSB := Lib.hid hsb
          clear h3 h4 h5 hsb
          simp only [askOut, Ti_enc]
          go_wp2_with fail
          go_region_held3 (fun w' => w'.cell? ⟨r, 1, none⟩ = some kv ∧ w'.cell? ⟨wr.heap.size, 0, none⟩ = some (.int .i64 0))
            (first
              | go_keep
              | exact (sd.same rfl rfl rfl rfl).cells
              | exact (sc.same rfl rfl rfl rfl).cells
              | exact (sb.same rfl rfl rfl rfl).cells
              | exact (sa.same rfl rfl rfl rfl).cells)
            (first
              | (go_at_call 15; refine Calls.mono (SB.kept (HSB.out.same rfl rfl rfl rfl)) ?_; rintro e wa ⟨va, rfl, ra, sa⟩)
              | (go_at_call 16; refine Calls.mono (SB.keysK (sa.same rfl rfl rfl rfl) (OffRow.heap ra rfl)) ?_; rintro e wb ⟨vb, rfl, rb, ra2, sb⟩)
              | (go_at_call 14; refine Calls.mono (SB.same14 (sb.same rfl rfl rfl rfl) (OffRow.heap ra2 rfl) (OffRow.heap rb rfl)) ?_; rintro e wc ⟨rfl, sc⟩)
              | (go_at_call 10; refine Calls.mono (SB.making (sc.same rfl rfl rfl rfl)) ?_; rintro e wd ⟨A0, c0, rfl, sd⟩))
          go_wp2_with fail
          go_roundw
          case rel => exact ⟨k + 1, _, F1, _, by go_num, by omega, by omega, sd.calm, (sd.st.two.same rfl rfl rfl rfl).mono (by omega)⟩
          case measure => simp only [intOf]; omega
        · have hmk2 := hmk
          have hmv : ∀ b ∈ [wr.heap.size], b ∉ F ∧ b < (wr.alloc (.cells #[.int .i64 0, .int .i64 (1000 * (k : Int))] 52)).heap.size := fun b hb => by
            simp at hb
            subst hb
            exact ⟨fun hm => by have := HV.out.held.lt _ hm; omega, by rw [World.size_alloc]; omega⟩
          have c := Get_makeI (A := A) s (k : Int) (.pointer (some ⟨wr.heap.size, 0, none⟩)) (madeX (1000 * (k : Int)) s) 21 [wr.heap.size] (fun args W => enters_of Try.func21 (by decide +kernel) rfl args W) (HV0.out #[.int .i64 0, .int .i64 (1000 * (k : Int))]).held (by rw [HV.out.most]; omega) (by rw [HV.out.most]; omega) HSZ.out (wrap64_wf _) (HV.out.sm.mono (by omega)) hmk hmv
            (fun W => W.heap[wr.heap.size]? = some (.cells #[.int .i64 1, .int .i64 (1000 * (k : Int))] 52 (0, 0))) (fun W1 W2 hb h1 => (hb _ (by simp)).trans h1)
            (fun W hb => made_any wr.heap.size (1000 * (k : Int)) s W ((hb _ (by simp)).trans (heap_alloc_new wr _)))
          refine Calls.mono c ?_
          clear c
          rintro e w2 ⟨rfl, F1, h3, h4, h5, h6⟩
          have hsm1 := askA_sm HV.out.sm s (k : Int)
          have hsm := giveA_sm hsm1 s (k : Int) (madeX (1000 * (k : Int)) s)
          have hmo := (giveA_most (askA A s (k : Int)).1 s (k : Int) (madeX (1000 * (k : Int)) s)).trans (askA_most A s (k : Int))
          have hc1 := give_calm HCALM.out hmk (madeX (1000 * (k : Int)) s)
          have hR := fun w1 (h1 : RefHeld w1 r A G) => RefAsk s (k : Int) h1 (HV.out.sm.mono (by omega))
          have hR2 := fun w1 G (h1 : RefHeld w1 r (askA A s (k : Int)).1 G) => RefGive s (k : Int) (madeX (1000 * (k : Int)) s) h1 (hsm1.mono (by omega))
          simp only [hmk] at hR
          obtain ⟨A1, hA1⟩ : ∃ A1, (askA A s (k : Int)).1 = A1 := ⟨_, rfl⟩
          obtain ⟨X, hX⟩ : ∃ X, madeX (1000 * (k : Int)) s = X := ⟨_, rfl⟩
          have hXw : wrap64 (1000 * (k : Int) + (s.size : Int)) = X := hX
          rw [hA1, hX] at h3 hsm hmo hc1
          rw [hX]
          simp only [hA1] at hR
          simp only [hA1, hX] at hR2
          obtain ⟨A2, hA2⟩ : ∃ A2, (giveA A1 s (k : Int) X).1 = A2 := ⟨_, rfl⟩
          rw [hA2] at h3 hsm hmo hc1
          simp only [hA2] at hR2
          have hf := half_of HV.out h3 h4 h6 h5
          obtain ⟨b', off', e9, _, d1⟩ := (gkey_at (HR.out.below hf.below (Nat.le_refl _)) HS.out)
          simp only [Option.some.injEq, Addr.mk.injEq, and_true] at e9
          obtain ⟨rfl, rfl⟩ := e9
          have HF := Lib.hid hf
          have HRR := Lib.hid hR
          have HR2 := Lib.hid hR2
          have HSM := Lib.hid hsm
          have HMO := Lib.hid hmo
          have HC1 := Lib.hid hc1
          have HXW := Lib.hid hXw
          clear h3 h4 h5 h6 hf hR hR2 hsm hsm1 hmo hc1 hmk hmk2 hA1 hX hA2 hmv hXw d0 d0a
          go_wp2_with fail
          refine Calls.mono (HRR.out _ HF.out.ref) ?_
          rintro e w3 ⟨rfl, G2, h3, h4, h5⟩
          have hb3 : Below w.heap.size w w3 := HF.out.below.trans (h5.toBelow HV.out.rbase HF.out.below.size)
          obtain ⟨b', off', e9, _, d2⟩ := (gkey_at (HR.out.below hb3 (Nat.le_refl _)) HS.out)
          simp only [Option.some.injEq, Addr.mk.injEq, and_true] at e9
          obtain ⟨rfl, rfl⟩ := e9
          have H3 := Lib.hid h3
          have H4 := Lib.hid h4
          have H5 := Lib.hid h5
          have hX2 := HXW.out
          clear h3 h4 h5 hb3
          simp only [askOut, Ti_zero]
          go_wp2_with fail
          simp only [HXW.out]
          refine Calls.mono (HR2.out _ _ H3.out) ?_
          rintro e w4 ⟨v4, c4, G3, rfl, _, h3, h4, h5⟩
          obtain ⟨kv, mv, hsb⟩ := HF.out.done HV.out h3 (H4.out.trans h4 H5.out.size) (H5.out.grow H4.out h5) HMO.out (k' := 2 * k + 1 + 1) (by omega) HSM.out h1 (by omega) HC1.out
          obtain ⟨q1, q2⟩ := hsb.cells
          have HSB := Lib.hid hsb
          clear h3 h4 h5 hsb
          go_wp2_with fail
          go_region_held3 (fun w' => w'.cell? ⟨r, 1, none⟩ = some kv ∧ w'.cell? ⟨wr.heap.size, 0, none⟩ = some (.int .i64 1))
            (first
              | go_keep
              | exact (sd.same rfl rfl rfl rfl).cells
              | exact (sc.same rfl rfl rfl rfl).cells
              | exact (sb.same rfl rfl rfl rfl).cells
              | exact (sa.same rfl rfl rfl rfl).cells)
            (first
              | (go_at_call 15; refine Calls.mono (SB.kept (HSB.out.same rfl rfl rfl rfl)) ?_; rintro e wa ⟨va, rfl, ra, sa⟩)
              | (go_at_call 16; refine Calls.mono (SB.keysK (sa.same rfl rfl rfl rfl) (OffRow.heap ra rfl)) ?_; rintro e wb ⟨vb, rfl, rb, ra2, sb⟩)
              | (go_at_call 14; refine Calls.mono (SB.same14 (sb.same rfl rfl rfl rfl) (OffRow.heap ra2 rfl) (OffRow.heap rb rfl)) ?_; rintro e wc ⟨rfl, sc⟩)
              | (go_at_call 10; refine Calls.mono (SB.making (sc.same rfl rfl rfl rfl)) ?_; rintro e wd ⟨A0, c0, rfl, sd⟩))
          go_wp2_with fail
          go_roundw
          case rel => exact ⟨k + 1, _, F1, _, by go_num, by omega, by omega, sd.calm, (sd.st.two.same rfl rfl rfl rfl).mono (by omega)⟩
          case measure => simp only [intOf]; omega
      · go_wp2_with fail
        refine (awake_any _).mono ?_
        rintro e w2 ⟨rfl, hb⟩
        go_wp2_with fail
        go_ret
        exact ⟨rfl, HV.out.below.trans (hb.mono HV.out.below.size)⟩
    · go_wp2_with fail
      refine (awake_any _).mono ?_
      rintro e w2 ⟨rfl, hb⟩
      go_wp2_with fail
      go_ret
      exact ⟨rfl, HV.out.below.trans (hb.mono HV.out.below.size)⟩
end Go.Proofs.Ytjghbcligjiaaaa
