/- MemoWakes' walk. -/
import Derived.Test.YtjghbcligjiaaaaAwake
import Derived.Test.YtjghbcligjiaaaaWakesP
import Derived.Test.YtjghbcligjiaaaaRead
import Derived.BigRegion
import Derived.Deep.RegionHeld3
namespace Go.Proofs.Ytjghbcligjiaaaa
open Go.RowKit Go.Maps Go.Sort Go.MuLone
set_option linter.unusedVariables false
set_option linter.unusedSimpArgs false
def u8N (k : Nat) : List Value := [.int .u8 (k : Int)]
theorem u8_at {w : World} {B : Nat} {A : Option Addr} {l : List Nat} {k : Nat} {x : Nat} (h : RowOf u8N 1 w B A l) (hx : l[k]? = some x) : ∃ b off, A = some ⟨b, off, none⟩ ∧ b < B ∧ w.cell? ⟨b, off + k, none⟩ = some (.int .u8 (x : Int)) := by
  have hlt : 0 < l.length := by
    cases l with
    | nil => simp at hx
    | cons _ _ => simp
  obtain ⟨b, off, e, hb, hc⟩ := h hlt
  refine ⟨b, off, e, hb, ?_⟩
  have := hc k x hx 0 _ rfl
  simpa using this
theorem conv_kof (W : World) (x : Nat) (g : Nat) (hg : g = W.heap.size) : (convert 22 9 (.slice (some ⟨g, 0, none⟩) 1 1)).run Try.prog (W.alloc (.cells #[.int .u8 (97 + (x : Int) % 9)] 5)) =
    .ok (.string (kof x)) (W.alloc (.cells #[.int .u8 (97 + (x : Int) % 9)] 5)) := by
  subst hg
  exact run_convert_bytes_back (P := Try.prog) (W.alloc (.cells #[.int .u8 (97 + (x : Int) % 9)] 5)) 22 9 5 ⟨W.heap.size, 0, none⟩ 1 [UInt8.ofNat (97 + x % 9)] Try.underlying22 Try.underlying5 Try.underlying9 (fun j hj => by
    rw [Addr.add_lit, Nat.zero_add, cell_of_row _ _ _ _ _ _ (heap_alloc_new W _)]
    simp at hj
    subst hj
    have e : (UInt8.ofNat (97 + x % 9)).toNat = 97 + x % 9 := by
      have : x % 9 < 9 := Nat.mod_lt _ (by omega)
      simp; omega
    simp only [List.getElem_cons_zero, e]
    simp)
theorem conv_drew (W : World) (x : Nat) : (convert 22 9 (.slice (some ⟨W.heap.size, 0, none⟩) 1 1)).run Try.prog (W.alloc (.cells #[.int .u8 (97 + (x : Int) % 9)] 5)).drew =
    .ok (.string (kof x)) (W.alloc (.cells #[.int .u8 (97 + (x : Int) % 9)] 5)).drew := conv_kof W.drew x W.heap.size rfl
theorem wrap_kof (x : Nat) : IntKind.u8.wrap (97 + (x : Int).tmod 9) = 97 + (x : Int) % 9 := by
  have e : (x : Int).tmod 9 = (x : Int) % 9 := Int.tmod_eq_emod_of_nonneg (by omega)
  rw [e]
  simp [IntKind.wrap, IntKind.bits, IntKind.signed]
  omega
/-- What the rounds of asking keep. -/
structure WInv (w0 : World) (l : List Nat) (n m k : Nat) (A : AS Int) (F : List Nat) (s6 : Value) (L : List Int) (w : World) : Prop where
  bi : BInv w0 n m k A F w
  row : OffRow 3 w s6 (L.map (Value.int .i64))
  off : ∀ q, s6.ownBlock = some q → q ∉ F ∧ w0.heap.size ≤ q
  len : L.length ≤ k
  asked : Asked l k A L.length
/-- What the rounds of giving keep. -/
structure GInv (w0 : World) (n m k : Nat) (MK : List (ByteArray × (Int × List Int))) (Am : Option Addr) (cm i : Nat) (A : AS Int) (F : List Nat) (w : World) : Prop where
  bi : BInv w0 n m k A F w
  row : OffRow 9 w (.slice Am MK.length cm) ((keys MK).map Value.string)
  off : ∀ q, (Value.slice Am MK.length cm).ownBlock = some q → q ∉ F
  rest : A.making = MK.drop i
theorem WInv.fst {w0 : World} {l : List Nat} {n m k : Nat} {A : AS Int} {F : List Nat} {s6 : Value} {L : List Int} {w : World} (h : WInv w0 l n m k A F s6 L w) : BInv w0 n m k A F w := h.bi
set_option maxRecDepth 100000 in
theorem Try.info3w : (Try.prog.info? 3).map (fun i => (i.zero, i.size, i.bytes)) = some (some (.int .i64 0), 1, 8) := by kernel_rfl
set_option maxRecDepth 100000 in
set_option maxHeartbeats 3200000 in
theorem lawWakes (w : World) (n : Nat) (h2 : n ≤ 255) (A0 : Option Addr) (c0 : Nat) (l : List Nat) (hl : l.length ≤ 9223372036854775807) (hr : RowOf u8N 1 w w.heap.size A0 l) (hg : ∀ a ∈ l, a ≤ 255) :
    Calls Try.prog 3 #[.int .u8 (n : Int), .slice A0 l.length c0] w fun e w' => e = .returned (.bool true) ∧ Below w.heap.size w w' := by
  have hn := NewHI (1 + n % 64) w (by omega) (by omega)
  rw [show (((1 + n % 64 : Nat)) : Int) = 1 + (n : Int) % 64 by omega] at hn
  have HN := Lib.hid hn
  obtain ⟨n1, hn1⟩ : ∃ n1, 1 + n % 64 = n1 := ⟨_, rfl⟩
  have hnn : 1 ≤ n1 ∧ n1 ≤ 64 := by omega
  rw [hn1] at HN
  obtain ⟨i3, hi3, hz0, hz1, hz2⟩ := info_parts Try.info3w
  have HNN := Lib.hid hnn
  have HR := Lib.hid hr
  have HG := Lib.hid hg
  clear hr hg hn hn1 hnn
  go_enter Try.func3, Try.ntmps3
  go_wp2_with (go_at_call 8; refine HN.out.mono ?_; rintro e w1 ⟨m, F0, rfl, h3, h4, h5⟩; have HI := Lib.hid (BInv.mk (n := n1) (k := 0) h3 h4 h5 rfl (Nat.zero_le _) ⟨Nat.zero_le _, Nat.zero_le _, fun p hp => by cases hp⟩); clear h3 h4 h5)
  go_loopw [6, 7] (fun s6 i wr => ∃ (k : Nat) (A : AS Int) (F : List Nat) (L : List Int), i = .int .i64 k ∧ k ≤ l.length ∧ k ≤ 100 ∧ WInv w l n1 m k A F s6 L wr) (fun _ i _ => l.length - (intOf i).toNat)
  case atStart => exact ⟨0, _, _, [], rfl, Nat.zero_le _, Nat.zero_le _, HI.out, OffRow.nil_, fun q hq => by simp [Value.ownBlock] at hq, Nat.le_refl _, asked_none l n1⟩
  case round =>
    obtain ⟨k, A, F, L, rfl, hk, hk2, hinv⟩ := hrel
    have HV := Lib.hid hinv
    clear hinv HI
    by_cases hlt : k < l.length ∧ k < 100
    · obtain ⟨hlt1, hlt2⟩ := hlt
      obtain ⟨x, hx⟩ : ∃ x, l[k]? = some x := ⟨_, List.getElem?_eq_getElem hlt1⟩
      obtain ⟨b, off, rfl, hbw, d0⟩ := u8_at (HR.out.below HV.out.bi.below (Nat.le_refl _)) hx
      have hx255 := HG.out x (List.mem_of_getElem? hx)
      have hstep := asked_step HV.out.asked hx
      have HST := Lib.hid hstep
      clear hx hstep
      have hcv := conv_kof wr x wr.heap.size rfl
      go_wp2_with fail
      have hb1 := HV.out.bi.later (w' := wr.alloc (.cells #[.int .u8 (97 + (x : Int) % 9)] 5)) (G := []) alloc_only (fun b hb => by cases hb)
      have hr1 := HV.out.row.keep (w' := wr.alloc (.cells #[.int .u8 (97 + (x : Int) % 9)] 5)) (fun q hq => Go.heap_alloc_old wr _ (HV.out.row.lt q hq))
      have hs1 : wr.heap.size ≤ (wr.alloc (.cells #[.int .u8 (97 + (x : Int) % 9)] 5)).heap.size := by rw [World.size_alloc]; omega
      clear hcv
      generalize wr.alloc (.cells #[.int .u8 (97 + (x : Int) % 9)] 5) = w2 at hb1 hr1 hs1 ⊢
      have c := AskHI (kof x) (k : Int) hb1.held (by have := hb1.most; have := HNN.out; omega) (kof_size x) (hb1.sm.mono (by omega))
      rcases HST.out with ⟨A2, hA2, has⟩ | ⟨A2, hA2, has⟩
      · rw [hA2] at c
        refine c.mono ?_
        clear c
        rintro e w3 ⟨rfl, F2, h3, h4, h5⟩
        have hb3 : BInv w n1 m (k + 1) A2 F2 w3 := by
          have := hb1.ask (key := kof x) (who := (k : Int)) (by rw [hA2]; exact h3) h4 h5
          rw [hA2] at this; exact this
        have hr3 := hr1.other h5 (fun q hq => (HV.out.off q hq).1)
        have hof : ∀ q, u6.ownBlock = some q → q ∉ F2 ∧ w.heap.size ≤ q := fun q hq => ⟨h4.off (HV.out.off q hq).1 (hr1.lt q hq), (HV.out.off q hq).2⟩
        have HW := Lib.hid (WInv.mk hb3 hr3 hof (by have := HV.out.len; omega) has)
        clear h3 h4 h5 hb3 hr3 hof hb1 hr1 hs1 hA2 has
        simp only [askOut]
        go_wp2_with fail
        go_roundw
        case rel => exact ⟨k + 1, A2, F2, L, by go_num, by omega, by omega, HW.out⟩
        case measure => simp only [intOf]; omega
      · rw [hA2] at c
        refine c.mono ?_
        clear c
        rintro e w3 ⟨rfl, F2, h3, h4, h5⟩
        have hb3 : BInv w n1 m (k + 1) A2 F2 w3 := by
          have := hb1.ask (key := kof x) (who := (k : Int)) (by rw [hA2]; exact h3) h4 h5
          rw [hA2] at this; exact this
        have hr3 := hr1.other h5 (fun q hq => (HV.out.off q hq).1)
        have hof : ∀ q, u6.ownBlock = some q → q ∉ F2 ∧ w.heap.size ≤ q := fun q hq => ⟨h4.off (HV.out.off q hq).1 (hr1.lt q hq), (HV.out.off q hq).2⟩
        have HB3 := Lib.hid hb3
        have HR3 := Lib.hid hr3
        have HOF := Lib.hid hof
        have HAS := Lib.hid has
        clear h3 h4 h5 hb3 hr3 hof hb1 hr1 hs1 hA2 has
        simp only [askOut]
        go_wp2_with (at_builtin; go_must (refine wpList_append_off (w := w3.alloc (.cells #[.int .i64 (k : Int)] 3)) rfl _ _ 25 rfl 3 i3 _ 8 Try.underlying25 hi3 hz0 hz1 hz2 rfl u6 _ (by rfl) (HR3.out.keep (fun p hp => Go.heap_alloc_old w3 _ (HR3.out.lt p hp))) ⟨w3.heap.size, 0, none⟩ (.int .i64 (k : Int)) (by rfl) (cell_one_new w3 (.int .i64 (k : Int)) 3 0 _ rfl) rfl (by rw [List.length_map]; have := HV.out.len; unfold maxLen; omega) (by rw [List.length_map]; have := HV.out.len; omega) ?_; intro g og cap w4 hr4 hg4 hb4; have HR4 := Lib.hid hr4; have HG4 := Lib.hid hg4; have HB4 := Lib.hid hb4; clear hr4 hg4 hb4))
        go_roundw
        case rel =>
          have ho4 : Only (own u6) w3 w4 := alloc_only.trans (Only.grown HG4.out (fun q hq => mem_own.2 hq))
          refine ⟨k + 1, A2, F2, L ++ [(k : Int)], by go_num, by omega, by omega, HB3.out.aside ho4 (fun q hq => ?_), ?_, fun q hq => ?_, by rw [List.length_append]; have := HV.out.len; simp; omega, by simpa using HAS.out⟩
          · have hq2 := HOF.out q (mem_own.1 hq)
            exact ⟨fun hm => hq2.1 hm, hq2.2⟩
          · have := HR4.out
            rw [List.length_map] at this
            simpa using this
          · simp [Value.ownBlock] at hq
            subst hq
            rcases HB4.out with e | e
            · exact HOF.out _ e
            · rw [World.size_alloc] at e
              exact ⟨fun hm => by have := HB3.out.held.lt _ hm; omega, by have := HB3.out.below.size; omega⟩
        case measure => simp only [intOf]; omega
    · have hend : k = l.length ∨ (k = 100 ∧ k < l.length) := by omega
      rcases hend with hend | ⟨hend, hkl⟩
      · subst hend
        obtain ⟨A6, c6, hu6, hm6⟩ := HV.out.row.len
        rw [List.length_map] at hu6
        subst hu6
        clear hm6
        have hL100 : L.length ≤ 100 := by have := HV.out.len; omega
        have hL63 : L.length ≤ 9223372036854775807 := by omega
        go_wp2_with fail
        refine (MakingHI HV.out.bi.held (by have := HV.out.bi.most; have := HNN.out; omega) (HV.out.bi.sm.mono (by omega))).mono ?_
        rintro e w2 ⟨vm, rfl, hr2, hq2, hh2, ho2⟩
        obtain ⟨Am, cm, rfl, hmm⟩ := hr2.len
        obtain ⟨MK, hMK⟩ : ∃ MK, A.making = MK := ⟨_, rfl⟩
        rw [hMK] at hr2 hq2 hmm ⊢
        have hkl2 : ((keys MK).map Value.string).length = MK.length := by simp [keys]
        rw [hkl2] at hr2 hq2 hmm ⊢
        have hb2 := HV.out.bi.only hh2 ho2
        have hgi : GInv w n1 m l.length MK Am cm 0 A F w2 := ⟨hb2, hr2, fun q hq hm => by have := hq2 q hq; have := HV.out.bi.held.lt q hm; omega, by rw [hMK]; rfl⟩
        have hml : MK.length ≤ 100 := by rw [← hMK]; have := HV.out.bi.sm.making; omega
        have hasd := HV.out.asked
        have hml63 : MK.length ≤ 9223372036854775807 := by omega
        have HGI := Lib.hid hgi
        have HASK := Lib.hid hasd
        have hws : waitsOf MK = L.length := by rw [← hMK]; exact hasd.sum
        have HWS := Lib.hid hws
        have HMK := Lib.hid hMK
        clear hr2 hq2 hh2 ho2 hkl2 hb2 hgi hasd hMK hmm hws
        go_wp2_with fail
        go_loopw [11, 13] (fun s11 s13 wr => ∃ (i : Nat) (A2 : AS Int) (F2 : List Nat), s13 = .int .i64 i ∧ i ≤ MK.length ∧ s11 = .int .i64 (waitsOf (MK.take i) : Nat) ∧ GInv w n1 m (l.length + i) MK Am cm i A2 F2 wr) (fun _ s13 _ => MK.length - (intOf s13).toNat)
        case atStart => exact ⟨0, _, _, rfl, Nat.zero_le _, rfl, HGI.out⟩
        case round =>
          obtain ⟨i, A2, F2, rfl, hi, rfl, hginv⟩ := hrel
          have HGV := Lib.hid hginv
          clear hginv
          by_cases hil : i < MK.length
          · obtain ⟨p, hp⟩ : ∃ p, MK[i]? = some p := ⟨_, List.getElem?_eq_getElem hil⟩
            obtain ⟨a, ha⟩ := HASK.out.ent p (by rw [HMK.out]; exact List.mem_of_getElem? hp)
            have hal : a < l.length := by have := ha.lt; omega
            have hrow := HGV.out.row
            have hnM : (keys MK).map Value.string ≠ [] := by intro e; simp [keys] at e; rw [e] at hil; simp at hil
            obtain ⟨gm, om, capm, hvm, x1, x2, hcm, x3⟩ := hrow.form hnM
            simp only [Value.slice.injEq] at hvm
            obtain ⟨rfl, x4, rfl⟩ := hvm
            have hpi : ((keys MK).map Value.string)[i]? = some (.string p.1) := by simp [keys, hp]
            have hcell := hcm i _ hpi
            have HP := Lib.hid hp
            have HA := Lib.hid ha
            have HCELL := Lib.hid hcell
            have hgm := x2
            clear hp ha hrow hnM hcm x1 x2 x3 x4 hpi hcell
            go_wp2_with fail
            obtain ⟨wo, hwo⟩ : ∃ wo, wr = wo := ⟨_, rfl⟩
            rw [hwo] at HGV HCELL hgm ⊢
            clear hwo
            go_loopw [14] (fun s14 wr => ∃ f : Nat, s14 = .int .i64 f ∧ f ≤ a ∧ Only [] wo wr) (fun s14 _ => a - (intOf s14).toNat)
            case atStart => exact ⟨0, rfl, Nat.zero_le _, Only.refl _ _⟩
            case round =>
              obtain ⟨f, rfl, hf, hon⟩ := hrel
              obtain ⟨xf, hxf⟩ : ∃ xf, l[f]? = some xf := ⟨_, List.getElem?_eq_getElem (by omega)⟩
              have hbel := (HGV.out.bi.aside hon (fun b hb => by cases hb)).below
              obtain ⟨b, off, rfl, hbw, d0⟩ := u8_at (HR.out.below hbel (Nat.le_refl _)) hxf
              have hx255 := HG.out xf (List.mem_of_getElem? hxf)
              have hcl : wr.cell? ⟨gm, om + i, none⟩ = some (.string p.1) := by
                have h1 := hon.block gm hgm (by simp)
                have h2 := HCELL.out
                simp only [World.cell?, h1] at h2 ⊢
                exact h2
              have hfl : (f : Int) < (l.length : Int) := by omega
              have hfl0 : (0 : Int) ≤ (f : Int) := by omega
              have hil0 : (0 : Int) ≤ (i : Int) := by omega
              have hil2 : (i : Int) < (MK.length : Int) := by omega
              by_cases hfa : f = a
              · subst hfa
                have hkp : kof xf = p.1 := by
                  obtain ⟨y, hy, e⟩ := HA.out.at_
                  rw [hxf] at hy; cases hy; exact e
                rw [← hkp] at hcl
                have HKP := Lib.hid hkp
                clear hxf hkp
                have hcv := conv_drew wr xf
                have hwr := wrap_kof xf
                have hd : decide ((f : Int) < (l.length : Int)) = true := by simp; omega
                have hse : ((kof xf).toList == (kof xf).toList) = true := by simp
                have hbw2 : b < wr.heap.size := Nat.lt_of_lt_of_le hbw hbel.size
                have hgm2 : gm < wr.heap.size := Nat.lt_of_lt_of_le hgm hon.size
                have HON := Lib.hid hon
                clear hon hbel
                go_wp2_with fail
                go_big_region
                have ho5 : Only [] wo (wr.alloc (.cells #[.int .u8 (97 + (xf : Int) % 9)] 5)).drew := HON.out.trans (alloc_only.trans ⟨rfl, rfl, rfl, Nat.le_refl _, fun _ _ _ => rfl⟩)
                have g5 := HGV.out.bi.aside ho5 (fun b hb => by cases hb)
                have G5 := Lib.hid g5
                have HO5 := Lib.hid ho5
                clear g5 ho5 hcv hwr hd
                go_wp2_with fail
                have hdrop : A2.making = p :: MK.drop (i + 1) := by
                  rw [HGV.out.rest, List.drop_eq_getElem_cons hil]
                  have e := HP.out
                  rw [List.getElem?_eq_getElem hil] at e
                  cases e; rfl
                have hnd0 := G5.out.keysOk.making
                rw [hdrop] at hnd0
                obtain ⟨gh1, gh2⟩ := give_head hdrop hnd0 (i : Int)
                rw [HA.out.who, ← HKP.out] at gh1 gh2
                refine (GiveHI (kof xf) (f : Int) (i : Int) G5.out.held (kof_size xf) (by have h100 := hml; simp [Lit.wf, IntKind.min, IntKind.max, IntKind.bits, IntKind.signed]; omega) (by have := G5.out.most; have := HNN.out; omega) (by have := G5.out.most; have := HNN.out; omega) (G5.out.sm.mono (by omega))).mono ?_
                rintro e w6 ⟨gv, gc, F6, rfl, hgv, h3, h4, h5⟩
                rw [gh1] at hgv
                obtain ⟨hrv, rfl, hqv⟩ := hgv
                obtain ⟨Av, cv, rfl, hmv⟩ := hrv.len
                rw [List.length_map] at hrv hqv hmv ⊢
                obtain ⟨A7, hA7⟩ : ∃ A7, (giveA A2 (kof xf) (f : Int) (i : Int)).1 = A7 := ⟨_, rfl⟩
                have b6 := G5.out.give h3 h4 h5
                rw [hA7] at b6 gh2
                have hrow6 := (HGV.out.row.other HO5.out (fun q _ hm => by cases hm)).other h5 (fun q hq => HGV.out.off q hq)
                have hg6 : GInv w n1 m (l.length + (i + 1)) MK (some ⟨gm, om, none⟩) cm (i + 1) A7 F6 w6 := ⟨b6, hrow6, fun q hq => h4.off (HGV.out.off q hq) (Nat.lt_of_lt_of_le (HGV.out.row.lt q hq) HO5.out.size), gh2⟩
                have hcell6 : w6.cell? ⟨gm, om + i, none⟩ = some (.string (kof xf)) := hrow6.cellsAt gm om rfl i _ (by simp [keys, HP.out, HKP.out])
                have hgm6 : gm < w6.heap.size := by have := HO5.out.size; have := h5.size; omega
                have hlv : p.2.2.length ≤ 100 := by
                  have e1 := waitsOf_take HP.out
                  have e2 := waitsOf_le MK (i + 1)
                  have e3 := HWS.out
                  omega
                have hlv63 : p.2.2.length ≤ 9223372036854775807 := by omega
                have HRV := Lib.hid hrv
                have HG6 := Lib.hid hg6
                have HC6 := Lib.hid hcell6
                have HGM6 := Lib.hid hgm6
                clear hrv hqv hmv h3 h4 h5 b6 gh1 gh2 hA7 hrow6 hg6 hcell6 hdrop hnd0 hgm6 hcl hbw2 hgm2 d0 hse hgm
                go_wp2_with fail
                go_loopw [17] (fun s17 wr => ∃ j : Nat, s17 = .int .i64 j ∧ j ≤ p.2.2.length ∧ Only [] w6 wr) (fun s17 _ => p.2.2.length - (intOf s17).toNat)
                case atStart => exact ⟨0, rfl, Nat.zero_le _, Only.refl _ _⟩
                case round =>
                  obtain ⟨j, rfl, hj, hon⟩ := hrel
                  by_cases hjl : j < p.2.2.length
                  · obtain ⟨y, hy⟩ : ∃ y, p.2.2[j]? = some y := ⟨_, List.getElem?_eq_getElem hjl⟩
                    obtain ⟨jj, rfl, hj1, hj2, xj, hxj, hkj⟩ := HA.out.waits y (List.mem_of_getElem? hy)
                    have hrw := HRV.out.other hon (fun q _ hm => by cases hm)
                    have hnM : p.2.2.map (Value.int .i64) ≠ [] := by intro e; simp at e; rw [e] at hjl; simp at hjl
                    obtain ⟨gq, oq, capq, hvq, x1, x2, hcq, x3⟩ := hrw.form hnM
                    simp only [Value.slice.injEq] at hvq
                    obtain ⟨rfl, x4, rfl⟩ := hvq
                    have e1 : wr.cell? ⟨gq, oq + j, none⟩ = some (.int .i64 (jj : Int)) := hcq j _ (by simp [hy])
                    obtain ⟨b9, o9, e9, hb9, e2⟩ := u8_at (HR.out.below (HG6.out.bi.aside hon (fun b hb => by cases hb)).below (Nat.le_refl _)) hxj
                    simp only [Option.some.injEq, Addr.mk.injEq, and_true] at e9
                    obtain ⟨rfl, rfl⟩ := e9
                    have hkk : kof xj = kof xf := by rw [hkj, HKP.out]
                    have e3 : wr.cell? ⟨gm, om + i, none⟩ = some (.string (kof xj)) := by
                      rw [hkk]
                      have h1 := hon.block gm HGM6.out (by simp)
                      have h2 := HC6.out
                      simp only [World.cell?, h1] at h2 ⊢
                      exact h2
                    have hx255 := HG.out xj (List.mem_of_getElem? hxj)
                    have q1 : ¬ (jj : Int) ≤ (f : Int) := by omega
                    have q2 : ¬ (l.length : Int) ≤ (jj : Int) := by omega
                    have q3 : (0 : Int) ≤ (jj : Int) := by omega
                    have q4 : (jj : Int) < (l.length : Int) := by omega
                    have q5 : (0 : Int) ≤ (j : Int) := by omega
                    have q6 : (j : Int) < (p.2.2.length : Int) := by omega
                    have hcv := conv_drew wr xj
                    have hwr := wrap_kof xj
                    have hse : ((kof xj).toList == (kof xj).toList) = true := by simp
                    have f1 : decide ((jj : Int) ≤ (f : Int)) = false := by simp; omega
                    have f2 : decide ((l.length : Int) ≤ (jj : Int)) = false := by simp; omega
                    have z1 : b < wr.heap.size := Nat.lt_of_lt_of_le hb9 (HG6.out.bi.aside hon (fun b hb => by cases hb)).below.size
                    have z2 : gm < wr.heap.size := Nat.lt_of_lt_of_le HGM6.out hon.size
                    have z3 : gq < wr.heap.size := x2
                    have f3 : decide (jj ≤ f) = false := by simp; omega
                    have f4 : decide (l.length ≤ jj) = false := by simp; omega
                    have HON2 := Lib.hid hon
                    have HY := Lib.hid hy
                    have HCQ := Lib.hid hcq
                    clear hrw hnM hcq x1 x2 x3 x4 hxj hkj hkk hon hy
                    rcases Nat.eq_zero_or_pos j with hj0 | hj0
                    · subst hj0
                      rw [Nat.add_zero] at e1
                      go_wp2_with fail
                      go_big_region
                      go_wp2_with fail
                      go_roundw
                      case rel => exact ⟨1, by go_num, by omega, HON2.out.trans (alloc_only.trans ⟨rfl, rfl, rfl, Nat.le_refl _, fun _ _ _ => rfl⟩)⟩
                      case measure => simp [intOf]; omega
                    · obtain ⟨j', rfl⟩ : ∃ j', j = j' + 1 := ⟨j - 1, by omega⟩
                      obtain ⟨y', hy'⟩ : ∃ y', p.2.2[j']? = some y' := ⟨_, List.getElem?_eq_getElem (by omega)⟩
                      obtain ⟨jp, rfl, _, _, _, _, _⟩ := HA.out.waits y' (List.mem_of_getElem? hy')
                      have e4 : wr.cell? ⟨gq, oq + j', none⟩ = some (.int .i64 (jp : Int)) := HCQ.out j' _ (by simp [hy'])
                      have hlt9 : jp < jj := by
                        have h1 := List.pairwise_iff_getElem.1 HA.out.rise j' (j' + 1) (by omega) hjl (by omega)
                        have h2 := HY.out
                        rw [List.getElem?_eq_getElem hjl] at h2
                        rw [List.getElem?_eq_getElem (by omega)] at hy'
                        have h3 : p.2.2[j' + 1] = (jj : Int) := Option.some.inj h2
                        have h4 : p.2.2[j'] = (jp : Int) := Option.some.inj hy'
                        rw [h3, h4] at h1
                        omega
                      have f5 : decide (jj ≤ jp) = false := by simp; omega
                      have f6 : decide ((jj : Int) ≤ (jp : Int)) = false := by simp; omega
                      have q7 : ¬ (jj : Int) ≤ (jp : Int) := by omega
                      have q8 : (0 : Int) < (j' : Int) + 1 := by omega
                      have q9 : (j' : Int) < (p.2.2.length : Int) := by omega
                      clear hy'
                      go_wp2_with fail
                      go_big_region
                      go_wp2_with fail
                      go_roundw
                      case rel => exact ⟨j' + 1 + 1, by go_num, by omega, HON2.out.trans (alloc_only.trans ⟨rfl, rfl, rfl, Nat.le_refl _, fun _ _ _ => rfl⟩)⟩
                      case measure => simp [intOf]; omega
                  · have hje : j = p.2.2.length := by omega
                    subst hje
                    have hws1 := waitsOf_take HP.out
                    have hws2 := waitsOf_le MK (i + 1)
                    rw [HWS.out] at hws2
                    have hsum : ((waitsOf (MK.take i) : Nat) : Int) + (p.2.2.length : Int) = ((waitsOf (MK.take (i + 1)) : Nat) : Int) := by omega
                    have hwp : IntKind.i64.wrap (((waitsOf (MK.take i) : Nat) : Int) + (p.2.2.length : Int)) = ((waitsOf (MK.take (i + 1)) : Nat) : Int) := by rw [hsum]; exact Go.IntWalk.i64_in _ (by omega)
                    have hg9 : GInv w n1 m (l.length + (i + 1)) MK (some ⟨gm, om, none⟩) cm (i + 1) A7 F6 wr := ⟨HG6.out.bi.aside hon (fun b hb => by cases hb), HG6.out.row.other hon (fun q _ hm => by cases hm), HG6.out.off, HG6.out.rest⟩
                    have HG9 := Lib.hid hg9
                    clear hg9 hon hsum hws1 hws2
                    go_wp2_with fail
                    go_roundw
                    case rel => exact ⟨i + 1, A7, F6, by go_num, by omega, rfl, HG9.out⟩
                    case measure => simp only [intOf]; omega
              · have hflt : f < a := by omega
                have hkne := HA.out.first f xf hflt hxf
                have hse : ((kof xf).toList == p.1.toList) = false := by
                  rw [ByteArray.toList_eq, ByteArray.toList_eq]
                  simp only [beq_eq_false_iff_ne, ne_eq]
                  exact fun e => hkne (ByteArray.ext (Array.toList_inj.1 e))
                clear hxf hkne
                have hcv := conv_drew wr xf
                have hwr := wrap_kof xf
                have hbw2 : b < wr.heap.size := Nat.lt_of_lt_of_le hbw hbel.size
                have hgm2 : gm < wr.heap.size := Nat.lt_of_lt_of_le hgm hon.size
                have HON := Lib.hid hon
                clear hon hbel
                go_wp2_with fail
                go_big_region
                go_wp2_with fail
                go_roundw
                case rel => exact ⟨f + 1, by go_num, by omega, HON.out.trans (alloc_only.trans ⟨rfl, rfl, rfl, Nat.le_refl _, fun _ _ _ => rfl⟩)⟩
                case measure => simp only [intOf]; omega
          · have hie : i = MK.length := by omega
            subst hie
            have hwt : waitsOf (MK.take MK.length) = L.length := by rw [List.take_length]; exact HWS.out
            rw [hwt]
            have hmk0 : keys A2.making = [] := by rw [HGV.out.rest, List.drop_length]; rfl
            have HMK0 := Lib.hid hmk0
            clear hwt hmk0
            go_wp2_with fail
            refine (MakingHI HGV.out.bi.held (by have := HGV.out.bi.most; have := HNN.out; omega) (HGV.out.bi.sm.mono (by omega))).mono ?_
            rintro e w8 ⟨v8, rfl, hr8, _, hh8, ho8⟩
            rw [HMK0.out] at hr8
            obtain ⟨A8, c8, rfl, _⟩ := hr8.len
            have hb8 := HGV.out.bi.only hh8 ho8
            have HB8 := Lib.hid hb8
            clear hr8 hh8 ho8 hb8
            go_wp2_with fail
            refine (awake_any w8).mono ?_
            rintro e w9 ⟨rfl, hb⟩
            have HB9 := Lib.hid (HB8.out.below.trans (hb.mono HB8.out.below.size))
            clear hb
            go_wp2_with fail
            go_ret
            exact ⟨rfl, HB9.out⟩
      · subst hend
        obtain ⟨A6, c6, hu6, hm6⟩ := HV.out.row.len
        rw [List.length_map] at hu6
        subst hu6
        clear hm6
        have hL100 : L.length ≤ 100 := by have := HV.out.len; omega
        have hL63 : L.length ≤ 9223372036854775807 := by omega
        go_wp2_with fail
        refine (MakingHI HV.out.bi.held (by have := HV.out.bi.most; have := HNN.out; omega) (HV.out.bi.sm.mono (by omega))).mono ?_
        rintro e w2 ⟨vm, rfl, hr2, hq2, hh2, ho2⟩
        obtain ⟨Am, cm, rfl, hmm⟩ := hr2.len
        obtain ⟨MK, hMK⟩ : ∃ MK, A.making = MK := ⟨_, rfl⟩
        rw [hMK] at hr2 hq2 hmm ⊢
        have hkl2 : ((keys MK).map Value.string).length = MK.length := by simp [keys]
        rw [hkl2] at hr2 hq2 hmm ⊢
        have hb2 := HV.out.bi.only hh2 ho2
        have hgi : GInv w n1 m 100 MK Am cm 0 A F w2 := ⟨hb2, hr2, fun q hq hm => by have := hq2 q hq; have := HV.out.bi.held.lt q hm; omega, by rw [hMK]; rfl⟩
        have hml : MK.length ≤ 100 := by rw [← hMK]; have := HV.out.bi.sm.making; omega
        have hasd := HV.out.asked
        have hml63 : MK.length ≤ 9223372036854775807 := by omega
        have HGI := Lib.hid hgi
        have HASK := Lib.hid hasd
        have hws : waitsOf MK = L.length := by rw [← hMK]; exact hasd.sum
        have HWS := Lib.hid hws
        have HMK := Lib.hid hMK
        clear hr2 hq2 hh2 ho2 hkl2 hb2 hgi hasd hMK hmm hws
        go_wp2_with fail
        go_loopw [11, 13] (fun s11 s13 wr => ∃ (i : Nat) (A2 : AS Int) (F2 : List Nat), s13 = .int .i64 i ∧ i ≤ MK.length ∧ s11 = .int .i64 (waitsOf (MK.take i) : Nat) ∧ GInv w n1 m (100 + i) MK Am cm i A2 F2 wr) (fun _ s13 _ => MK.length - (intOf s13).toNat)
        case atStart => exact ⟨0, _, _, rfl, Nat.zero_le _, rfl, HGI.out⟩
        case round =>
          obtain ⟨i, A2, F2, rfl, hi, rfl, hginv⟩ := hrel
          have HGV := Lib.hid hginv
          clear hginv
          by_cases hil : i < MK.length
          · obtain ⟨p, hp⟩ : ∃ p, MK[i]? = some p := ⟨_, List.getElem?_eq_getElem hil⟩
            obtain ⟨a, ha⟩ := HASK.out.ent p (by rw [HMK.out]; exact List.mem_of_getElem? hp)
            have hal : a < l.length := by have := ha.lt; omega
            have hrow := HGV.out.row
            have hnM : (keys MK).map Value.string ≠ [] := by intro e; simp [keys] at e; rw [e] at hil; simp at hil
            obtain ⟨gm, om, capm, hvm, x1, x2, hcm, x3⟩ := hrow.form hnM
            simp only [Value.slice.injEq] at hvm
            obtain ⟨rfl, x4, rfl⟩ := hvm
            have hpi : ((keys MK).map Value.string)[i]? = some (.string p.1) := by simp [keys, hp]
            have hcell := hcm i _ hpi
            have HP := Lib.hid hp
            have HA := Lib.hid ha
            have HCELL := Lib.hid hcell
            have hgm := x2
            clear hp ha hrow hnM hcm x1 x2 x3 x4 hpi hcell
            go_wp2_with fail
            obtain ⟨wo, hwo⟩ : ∃ wo, wr = wo := ⟨_, rfl⟩
            rw [hwo] at HGV HCELL hgm ⊢
            clear hwo
            go_loopw [14] (fun s14 wr => ∃ f : Nat, s14 = .int .i64 f ∧ f ≤ a ∧ Only [] wo wr) (fun s14 _ => a - (intOf s14).toNat)
            case atStart => exact ⟨0, rfl, Nat.zero_le _, Only.refl _ _⟩
            case round =>
              obtain ⟨f, rfl, hf, hon⟩ := hrel
              obtain ⟨xf, hxf⟩ : ∃ xf, l[f]? = some xf := ⟨_, List.getElem?_eq_getElem (by omega)⟩
              have hbel := (HGV.out.bi.aside hon (fun b hb => by cases hb)).below
              obtain ⟨b, off, rfl, hbw, d0⟩ := u8_at (HR.out.below hbel (Nat.le_refl _)) hxf
              have hx255 := HG.out xf (List.mem_of_getElem? hxf)
              have hcl : wr.cell? ⟨gm, om + i, none⟩ = some (.string p.1) := by
                have h1 := hon.block gm hgm (by simp)
                have h2 := HCELL.out
                simp only [World.cell?, h1] at h2 ⊢
                exact h2
              have hfl : (f : Int) < (l.length : Int) := by omega
              have hfl0 : (0 : Int) ≤ (f : Int) := by omega
              have hil0 : (0 : Int) ≤ (i : Int) := by omega
              have hil2 : (i : Int) < (MK.length : Int) := by omega
              by_cases hfa : f = a
              · subst hfa
                have hkp : kof xf = p.1 := by
                  obtain ⟨y, hy, e⟩ := HA.out.at_
                  rw [hxf] at hy; cases hy; exact e
                rw [← hkp] at hcl
                have HKP := Lib.hid hkp
                clear hxf hkp
                have hcv := conv_drew wr xf
                have hwr := wrap_kof xf
                have hd : decide ((f : Int) < (l.length : Int)) = true := by simp; omega
                have hse : ((kof xf).toList == (kof xf).toList) = true := by simp
                have hbw2 : b < wr.heap.size := Nat.lt_of_lt_of_le hbw hbel.size
                have hgm2 : gm < wr.heap.size := Nat.lt_of_lt_of_le hgm hon.size
                have HON := Lib.hid hon
                clear hon hbel
                go_wp2_with fail
                go_big_region
                have ho5 : Only [] wo (wr.alloc (.cells #[.int .u8 (97 + (xf : Int) % 9)] 5)).drew := HON.out.trans (alloc_only.trans ⟨rfl, rfl, rfl, Nat.le_refl _, fun _ _ _ => rfl⟩)
                have g5 := HGV.out.bi.aside ho5 (fun b hb => by cases hb)
                have G5 := Lib.hid g5
                have HO5 := Lib.hid ho5
                clear g5 ho5 hcv hwr hd
                go_wp2_with fail
                have hdrop : A2.making = p :: MK.drop (i + 1) := by
                  rw [HGV.out.rest, List.drop_eq_getElem_cons hil]
                  have e := HP.out
                  rw [List.getElem?_eq_getElem hil] at e
                  cases e; rfl
                have hnd0 := G5.out.keysOk.making
                rw [hdrop] at hnd0
                obtain ⟨gh1, gh2⟩ := give_head hdrop hnd0 (i : Int)
                rw [HA.out.who, ← HKP.out] at gh1 gh2
                refine (GiveHI (kof xf) (f : Int) (i : Int) G5.out.held (kof_size xf) (by have h100 := hml; simp [Lit.wf, IntKind.min, IntKind.max, IntKind.bits, IntKind.signed]; omega) (by have := G5.out.most; have := HNN.out; omega) (by have := G5.out.most; have := HNN.out; omega) (G5.out.sm.mono (by omega))).mono ?_
                rintro e w6 ⟨gv, gc, F6, rfl, hgv, h3, h4, h5⟩
                rw [gh1] at hgv
                obtain ⟨hrv, rfl, hqv⟩ := hgv
                obtain ⟨Av, cv, rfl, hmv⟩ := hrv.len
                rw [List.length_map] at hrv hqv hmv ⊢
                obtain ⟨A7, hA7⟩ : ∃ A7, (giveA A2 (kof xf) (f : Int) (i : Int)).1 = A7 := ⟨_, rfl⟩
                have b6 := G5.out.give h3 h4 h5
                rw [hA7] at b6 gh2
                have hrow6 := (HGV.out.row.other HO5.out (fun q _ hm => by cases hm)).other h5 (fun q hq => HGV.out.off q hq)
                have hg6 : GInv w n1 m (100 + (i + 1)) MK (some ⟨gm, om, none⟩) cm (i + 1) A7 F6 w6 := ⟨b6, hrow6, fun q hq => h4.off (HGV.out.off q hq) (Nat.lt_of_lt_of_le (HGV.out.row.lt q hq) HO5.out.size), gh2⟩
                have hcell6 : w6.cell? ⟨gm, om + i, none⟩ = some (.string (kof xf)) := hrow6.cellsAt gm om rfl i _ (by simp [keys, HP.out, HKP.out])
                have hgm6 : gm < w6.heap.size := by have := HO5.out.size; have := h5.size; omega
                have hlv : p.2.2.length ≤ 100 := by
                  have e1 := waitsOf_take HP.out
                  have e2 := waitsOf_le MK (i + 1)
                  have e3 := HWS.out
                  omega
                have hlv63 : p.2.2.length ≤ 9223372036854775807 := by omega
                have HRV := Lib.hid hrv
                have HG6 := Lib.hid hg6
                have HC6 := Lib.hid hcell6
                have HGM6 := Lib.hid hgm6
                clear hrv hqv hmv h3 h4 h5 b6 gh1 gh2 hA7 hrow6 hg6 hcell6 hdrop hnd0 hgm6 hcl hbw2 hgm2 d0 hse hgm
                go_wp2_with fail
                go_loopw [17] (fun s17 wr => ∃ j : Nat, s17 = .int .i64 j ∧ j ≤ p.2.2.length ∧ Only [] w6 wr) (fun s17 _ => p.2.2.length - (intOf s17).toNat)
                case atStart => exact ⟨0, rfl, Nat.zero_le _, Only.refl _ _⟩
                case round =>
                  obtain ⟨j, rfl, hj, hon⟩ := hrel
                  by_cases hjl : j < p.2.2.length
                  · obtain ⟨y, hy⟩ : ∃ y, p.2.2[j]? = some y := ⟨_, List.getElem?_eq_getElem hjl⟩
                    obtain ⟨jj, rfl, hj1, hj2, xj, hxj, hkj⟩ := HA.out.waits y (List.mem_of_getElem? hy)
                    have hrw := HRV.out.other hon (fun q _ hm => by cases hm)
                    have hnM : p.2.2.map (Value.int .i64) ≠ [] := by intro e; simp at e; rw [e] at hjl; simp at hjl
                    obtain ⟨gq, oq, capq, hvq, x1, x2, hcq, x3⟩ := hrw.form hnM
                    simp only [Value.slice.injEq] at hvq
                    obtain ⟨rfl, x4, rfl⟩ := hvq
                    have e1 : wr.cell? ⟨gq, oq + j, none⟩ = some (.int .i64 (jj : Int)) := hcq j _ (by simp [hy])
                    obtain ⟨b9, o9, e9, hb9, e2⟩ := u8_at (HR.out.below (HG6.out.bi.aside hon (fun b hb => by cases hb)).below (Nat.le_refl _)) hxj
                    simp only [Option.some.injEq, Addr.mk.injEq, and_true] at e9
                    obtain ⟨rfl, rfl⟩ := e9
                    have hkk : kof xj = kof xf := by rw [hkj, HKP.out]
                    have e3 : wr.cell? ⟨gm, om + i, none⟩ = some (.string (kof xj)) := by
                      rw [hkk]
                      have h1 := hon.block gm HGM6.out (by simp)
                      have h2 := HC6.out
                      simp only [World.cell?, h1] at h2 ⊢
                      exact h2
                    have hx255 := HG.out xj (List.mem_of_getElem? hxj)
                    have q1 : ¬ (jj : Int) ≤ (f : Int) := by omega
                    have q2 : ¬ (l.length : Int) ≤ (jj : Int) := by omega
                    have q3 : (0 : Int) ≤ (jj : Int) := by omega
                    have q4 : (jj : Int) < (l.length : Int) := by omega
                    have q5 : (0 : Int) ≤ (j : Int) := by omega
                    have q6 : (j : Int) < (p.2.2.length : Int) := by omega
                    have hcv := conv_drew wr xj
                    have hwr := wrap_kof xj
                    have hse : ((kof xj).toList == (kof xj).toList) = true := by simp
                    have f1 : decide ((jj : Int) ≤ (f : Int)) = false := by simp; omega
                    have f2 : decide ((l.length : Int) ≤ (jj : Int)) = false := by simp; omega
                    have z1 : b < wr.heap.size := Nat.lt_of_lt_of_le hb9 (HG6.out.bi.aside hon (fun b hb => by cases hb)).below.size
                    have z2 : gm < wr.heap.size := Nat.lt_of_lt_of_le HGM6.out hon.size
                    have z3 : gq < wr.heap.size := x2
                    have f3 : decide (jj ≤ f) = false := by simp; omega
                    have f4 : decide (l.length ≤ jj) = false := by simp; omega
                    have HON2 := Lib.hid hon
                    have HY := Lib.hid hy
                    have HCQ := Lib.hid hcq
                    clear hrw hnM hcq x1 x2 x3 x4 hxj hkj hkk hon hy
                    rcases Nat.eq_zero_or_pos j with hj0 | hj0
                    · subst hj0
                      rw [Nat.add_zero] at e1
                      go_wp2_with fail
                      go_big_region
                      go_wp2_with fail
                      go_roundw
                      case rel => exact ⟨1, by go_num, by omega, HON2.out.trans (alloc_only.trans ⟨rfl, rfl, rfl, Nat.le_refl _, fun _ _ _ => rfl⟩)⟩
                      case measure => simp [intOf]; omega
                    · obtain ⟨j', rfl⟩ : ∃ j', j = j' + 1 := ⟨j - 1, by omega⟩
                      obtain ⟨y', hy'⟩ : ∃ y', p.2.2[j']? = some y' := ⟨_, List.getElem?_eq_getElem (by omega)⟩
                      obtain ⟨jp, rfl, _, _, _, _, _⟩ := HA.out.waits y' (List.mem_of_getElem? hy')
                      have e4 : wr.cell? ⟨gq, oq + j', none⟩ = some (.int .i64 (jp : Int)) := HCQ.out j' _ (by simp [hy'])
                      have hlt9 : jp < jj := by
                        have h1 := List.pairwise_iff_getElem.1 HA.out.rise j' (j' + 1) (by omega) hjl (by omega)
                        have h2 := HY.out
                        rw [List.getElem?_eq_getElem hjl] at h2
                        rw [List.getElem?_eq_getElem (by omega)] at hy'
                        have h3 : p.2.2[j' + 1] = (jj : Int) := Option.some.inj h2
                        have h4 : p.2.2[j'] = (jp : Int) := Option.some.inj hy'
                        rw [h3, h4] at h1
                        omega
                      have f5 : decide (jj ≤ jp) = false := by simp; omega
                      have f6 : decide ((jj : Int) ≤ (jp : Int)) = false := by simp; omega
                      have q7 : ¬ (jj : Int) ≤ (jp : Int) := by omega
                      have q8 : (0 : Int) < (j' : Int) + 1 := by omega
                      have q9 : (j' : Int) < (p.2.2.length : Int) := by omega
                      clear hy'
                      go_wp2_with fail
                      go_big_region
                      go_wp2_with fail
                      go_roundw
                      case rel => exact ⟨j' + 1 + 1, by go_num, by omega, HON2.out.trans (alloc_only.trans ⟨rfl, rfl, rfl, Nat.le_refl _, fun _ _ _ => rfl⟩)⟩
                      case measure => simp [intOf]; omega
                  · have hje : j = p.2.2.length := by omega
                    subst hje
                    have hws1 := waitsOf_take HP.out
                    have hws2 := waitsOf_le MK (i + 1)
                    rw [HWS.out] at hws2
                    have hsum : ((waitsOf (MK.take i) : Nat) : Int) + (p.2.2.length : Int) = ((waitsOf (MK.take (i + 1)) : Nat) : Int) := by omega
                    have hwp : IntKind.i64.wrap (((waitsOf (MK.take i) : Nat) : Int) + (p.2.2.length : Int)) = ((waitsOf (MK.take (i + 1)) : Nat) : Int) := by rw [hsum]; exact Go.IntWalk.i64_in _ (by omega)
                    have hg9 : GInv w n1 m (100 + (i + 1)) MK (some ⟨gm, om, none⟩) cm (i + 1) A7 F6 wr := ⟨HG6.out.bi.aside hon (fun b hb => by cases hb), HG6.out.row.other hon (fun q _ hm => by cases hm), HG6.out.off, HG6.out.rest⟩
                    have HG9 := Lib.hid hg9
                    clear hg9 hon hsum hws1 hws2
                    go_wp2_with fail
                    go_roundw
                    case rel => exact ⟨i + 1, A7, F6, by go_num, by omega, rfl, HG9.out⟩
                    case measure => simp only [intOf]; omega
              · have hflt : f < a := by omega
                have hkne := HA.out.first f xf hflt hxf
                have hse : ((kof xf).toList == p.1.toList) = false := by
                  rw [ByteArray.toList_eq, ByteArray.toList_eq]
                  simp only [beq_eq_false_iff_ne, ne_eq]
                  exact fun e => hkne (ByteArray.ext (Array.toList_inj.1 e))
                clear hxf hkne
                have hcv := conv_drew wr xf
                have hwr := wrap_kof xf
                have hbw2 : b < wr.heap.size := Nat.lt_of_lt_of_le hbw hbel.size
                have hgm2 : gm < wr.heap.size := Nat.lt_of_lt_of_le hgm hon.size
                have HON := Lib.hid hon
                clear hon hbel
                go_wp2_with fail
                go_big_region
                go_wp2_with fail
                go_roundw
                case rel => exact ⟨f + 1, by go_num, by omega, HON.out.trans (alloc_only.trans ⟨rfl, rfl, rfl, Nat.le_refl _, fun _ _ _ => rfl⟩)⟩
                case measure => simp only [intOf]; omega
          · have hie : i = MK.length := by omega
            subst hie
            have hwt : waitsOf (MK.take MK.length) = L.length := by rw [List.take_length]; exact HWS.out
            rw [hwt]
            have hmk0 : keys A2.making = [] := by rw [HGV.out.rest, List.drop_length]; rfl
            have HMK0 := Lib.hid hmk0
            clear hwt hmk0
            go_wp2_with fail
            refine (MakingHI HGV.out.bi.held (by have := HGV.out.bi.most; have := HNN.out; omega) (HGV.out.bi.sm.mono (by omega))).mono ?_
            rintro e w8 ⟨v8, rfl, hr8, _, hh8, ho8⟩
            rw [HMK0.out] at hr8
            obtain ⟨A8, c8, rfl, _⟩ := hr8.len
            have hb8 := HGV.out.bi.only hh8 ho8
            have HB8 := Lib.hid hb8
            clear hr8 hh8 ho8 hb8
            go_wp2_with fail
            refine (awake_any w8).mono ?_
            rintro e w9 ⟨rfl, hb⟩
            have HB9 := Lib.hid (HB8.out.below.trans (hb.mono HB8.out.below.size))
            clear hb
            go_wp2_with fail
            go_ret
            exact ⟨rfl, HB9.out⟩
end Go.Proofs.Ytjghbcligjiaaaa
