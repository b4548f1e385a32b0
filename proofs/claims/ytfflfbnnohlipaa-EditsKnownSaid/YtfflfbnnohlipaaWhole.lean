/- edits.Whole. -/
import Derived.Test.YtfflfbnnohlipaaRefWhole
import Derived.Maps.Own
import Derived.Maps.OwnOps
import Derived.Maps.OwnSet
import Derived.Maps.Views
import Derived.StringKeys
namespace Go.Proofs.Ytfflfbnnohlipaa
open Go.RowKit Go.Maps
set_option linter.unusedVariables false
set_option linter.unusedSimpArgs false

theorem law9 : Keyed Try.prog 9 := string_keyed Try.underlying9
theorem zero3 (w : World) : (zeroValue 3).run Try.prog w = .ok (.int .i64 0) w := by kernel_rfl
def keyU (u : ByteArray) : Lit := .string u.data.toList
abbrev Mp : Type := DataW Unit
def intD (n : Int) : Mp := .lit (.int .i64 n)

def whereL (u : ByteArray) : List Dc → Nat → Option Nat
  | [], _ => none
  | d :: r, k => if d.uri = u then some k else whereL u r (k + 1)
theorem where_first (u : ByteArray) : ∀ (l : List Dc) (k : Nat), whereL u l k = (firstAt l u).map (· + k) := by
  intro l
  induction l with
  | nil => intro k; rfl
  | cons d r ih =>
    intro k
    simp only [whereL, firstAt, List.findIdx?_cons] at *
    by_cases h : d.uri = u
    · simp [h]
    · simp only [h, decide_false, if_false, ih]
      cases List.findIdx? (fun d => decide (d.uri = u)) r with
      | none => simp
      | some i => simp; omega

def WH (D : Mp) (docs : List Dc) (k : Nat) : Prop := ∀ u, (∀ j, whereL u (docs.drop k) k = some j → Maps.has D (keyU u) = true ∧ D.atKey (keyU u) (intD 0) = intD j) ∧ (whereL u (docs.drop k) k = none → Maps.has D (keyU u) = false)

theorem keyU_ne {a b : ByteArray} (h : ¬ a = b) : keyU a ≠ keyU b := fun e => h (by
  unfold keyU at e
  injection e with e
  cases a; cases b
  simpa using e)

theorem WH.step {D : Mp} {docs : List Dc} {k : Nat} {d : Dc} (h : WH D docs (k + 1)) (hm : IsMap D) (hd : docs[k]? = some d) : WH (D.put (keyU d.uri) (intD k)) docs k := by
  intro u
  have hdr : docs.drop k = d :: docs.drop (k + 1) := drop_cons hd
  rw [hdr, whereL]
  by_cases hu : d.uri = u
  · subst hu
    rw [if_pos rfl]
    refine ⟨fun j hj => ?_, fun hj => by cases hj⟩
    cases hj
    exact ⟨has_put_same hm (by trivial) _, atKey_put_same hm (by trivial) _ _⟩
  · rw [if_neg hu]
    have hne : keyU u ≠ keyU d.uri := fun e => keyU_ne hu e.symm
    obtain ⟨h1, h2⟩ := h u
    refine ⟨fun j hj => ?_, fun hj => ?_⟩
    · rw [has_put_other hne, atKey_put_other hne]; exact h1 j hj
    · rw [has_put_other hne]; exact h2 hj
theorem WH.start (docs : List Dc) : WH (.map []) docs docs.length := by
  intro u
  rw [List.drop_length]
  exact ⟨(fun j hj => by cases hj), fun _ => rfl⟩
theorem WH.done {D : Mp} {docs : List Dc} (h : WH D docs 0) (u : ByteArray) : (∀ j, firstAt docs u = some j → Maps.has D (keyU u) = true ∧ D.atKey (keyU u) (intD 0) = intD j) ∧ (firstAt docs u = none → Maps.has D (keyU u) = false) := by
  have := h u
  rw [List.drop_zero, where_first] at this
  simpa using this

theorem ownsMap_below {H : Type} {P : Program} {k : TypeId} {R : Value → Option (DataW H × List MemPlace)} {w w' : World} {b n B : Nat} {D : DataW H} (h : w.ownsMap P k R b n D) (hb : Below B w w') (hlt : b < B) : w'.ownsMap P k R b n D := by
  obtain ⟨es, clock, h1, rest⟩ := h
  exact ⟨es, clock, (hb.block b hlt).trans h1, rest⟩
theorem first_at {docs : List Dc} {u : ByteArray} {i : Nat} (h : firstAt docs u = some i) : ∃ d, docs[i]? = some d ∧ d.uri = u := by
  rw [firstAt, List.findIdx?_eq_some_iff_getElem] at h
  obtain ⟨hi, h1, _⟩ := h
  exact ⟨_, List.getElem?_eq_getElem hi, by simpa using h1⟩

set_option maxRecDepth 100000 in
set_option maxHeartbeats 6400000 in
theorem whole_any (A : Option Addr) (c : Nat) (docs : List Dc) (A2 : Option Addr) (c2 : Nat) (l : List RDe) (w : World) (hf : FineW docs l) (hr : RowOf Dc.cells 3 w w.heap.size A docs) (hr2 : RowOf RDe.cells 3 w w.heap.size A2 l)
    (hd : DeepE w w.heap.size l) (hnil : A = none → docs.length = 0 ∧ c = 0) (hc2 : l.length ≤ c2) :
    Calls Try.prog 19 #[.slice A docs.length c, .slice A2 l.length c2] w fun e w' => RetWhole docs l e w' ∧ Below w.heap.size w w' := by
  have hmm := @run_makeMap Try.prog
  have hmf : ∀ (fn : Fn) (first cap : Array Value) (w : World), (Instr.makeFunc fn first cap).run Try.prog w = .ok (.func fn first cap) w := fun _ _ _ _ => rfl
  have HR := Lib.hid hr
  have HR2 := Lib.hid hr2
  have HD := Lib.hid hd
  have HF := Lib.hid hf
  have HN := Lib.hid hnil
  have hll := hf.2.1
  have hdl := hf.1
  clear hr hr2 hd hf hnil
  go_enter Try.func19, Try.ntmps19
  go_wp2_with fail
  clear hmm
  go_loopw [7] (fun i wr => ∃ (k : Nat) (D : Mp), k ≤ docs.length ∧ i = .int .i64 ((k : Int) - 1) ∧ wr.ownsMap Try.prog 9 (plainElem Try.prog 3) w.heap.size (docs.length - k) D ∧ WH D docs k ∧ Below w.heap.size w wr) (fun i _ => (intOf i + 1).toNat)
  case atStart => exact ⟨docs.length, .map [], Nat.le_refl _, rfl, by rw [Nat.sub_self]; exact World.ownsMap_made _ _ _ _, WH.start docs, (Below.refl _ _).alloc (Nat.le_refl _) _⟩
  case round =>
    obtain ⟨k, D, hk, rfl, hmap, hwh, hb⟩ := hrel
    have HM := Lib.hid hmap
    have HWH := Lib.hid hwh
    have HB := Lib.hid hb
    have hbs := hb.size
    clear hmap hwh hb
    by_cases hk0 : k = 0
    · subst hk0
      have HCL := Lib.hid (clone_any A c docs wr hdl ((HR.out.below HB.out (Nat.le_refl _)).more hbs) HN.out)
      have hml := HM.out.lt
      go_wp2_with (go_at_call 34; refine HCL.out.mono ?_; rintro e w2 ⟨⟨v, rfl, hown⟩, hb2⟩)
      have hmap2 := ownsMap_below HM.out hb2 hml
      have HB2 := Lib.hid (below_then HB.out hb2)
      have hBo : w.heap.size < wr.heap.size := hml
      have HWD := Lib.hid (fun u => HWH.out.done u)
      obtain ⟨Bo, hBo2⟩ : ∃ Bo, Bo = wr.heap.size := ⟨_, rfl⟩
      rw [← hBo2] at hown hBo
      have HM2 := Lib.hid hmap2
      have HO2 := Lib.hid hown
      clear hmap2 hown hb2 HM HWH HB hbs hBo2 hml HCL hk
      go_loopw [34] (fun i wr => ∃ (k : Nat) (out : List Dc), k ≤ l.length ∧ i = .int .i64 k ∧ wholeV docs l = wholeR docs (l.take k) (l.drop k) out ∧ out.length = docs.length ∧ Own Dc.cells 3 43 wr Bo v out ∧ Below w.heap.size w wr ∧ wr.ownsMap Try.prog 9 (plainElem Try.prog 3) w.heap.size (docs.length - 0) D) (fun i _ => l.length - (intOf i).toNat)
      case atStart => exact ⟨0, docs, Nat.zero_le _, rfl, rfl, rfl, HO2.out, HB2.out, HM2.out⟩
      case round =>
        clear HM2 HO2 HB2
        obtain ⟨k, out, hk, rfl, hw, hol, hown, hb, hmap⟩ := hrel
        have HW := Lib.hid hw
        have HOL := Lib.hid hol
        have HO := Lib.hid hown
        have HB := Lib.hid hb
        have HM := Lib.hid hmap
        have hbs := hb.size
        clear hw hol hown hb hmap
        by_cases hlt : k < l.length
        · obtain ⟨x, hx⟩ := get_some hlt
          obtain ⟨xu, xv, xA, xc, xs⟩ := x
          obtain ⟨b, off, hA, hbl, h1, h2, h3⟩ := row3_at (HR2.out.below HB.out (Nat.le_refl _)) hx rfl
          have hxm := List.mem_of_getElem? hx
          have HX := Lib.hid hx
          have HXM := Lib.hid hxm
          have hxs := HF.out.2.2.2 _ hxm
          dsimp only at hxs
          have HXS := Lib.hid hxs
          subst hA
          have hk0 : (0 : Int) ≤ (k : Int) := by omega
          have hk1 : (k : Int) < (l.length : Int) := by omega
          have hk2 : (k : Int) ≤ (c2 : Int) := by omega
          have hkc : k ≤ c2 := by omega
          have HKEY := Lib.hid (show keyOf Try.prog 9 (.string xu) = some (keyU xu) from WideMaps.keyOf_string_mk Try.underlying9 (by have := hxs.2.2; unfold maxLen; exact this))
          have hct := contains_any (some ⟨b, off, none⟩) c2 wr.heap.size (l.take k) xu (wr.alloc (.cells #[.string xu, .int .i64 xv, .slice xA xs.length xc] 45)) (by rw [List.length_take]; omega)
            (((((HR2.out.below HB.out (Nat.le_refl _)).more hbs).alloc (Nat.le_refl _) _).more (by simp)).take k) (by rw [World.cell?_alloc_at _ _ _ _ rfl]; rfl) (by simp)
          rw [show (l.take k).length = k by rw [List.length_take]; omega] at hct
          clear hx hxm hxs
          by_cases hany : (l.take k).any (fun y => decide (y.uri = xu)) = true
          · rw [hany] at hct
            have HCT := Lib.hid hct
            have HANY := Lib.hid hany
            clear hct hany
            go_wp2_with (go_at_call 35; refine HCT.out.mono ?_; rintro e w3 ⟨rfl, hb3⟩; have k0 : w3.cell? ⟨wr.heap.size, 0, none⟩ = some (.string xu) := (hb3.cell (p := ⟨wr.heap.size, 0, none⟩) (by simp)).trans (by rw [World.cell?_alloc_at _ _ _ _ rfl]; rfl); have k1 : w3.cell? ⟨wr.heap.size, 1, none⟩ = some (.int .i64 xv) := (hb3.cell (p := ⟨wr.heap.size, 1, none⟩) (by simp)).trans (by rw [World.cell?_alloc_at _ _ _ _ rfl]; rfl); have k2 : w3.cell? ⟨wr.heap.size, 2, none⟩ = some (.slice xA xs.length xc) := (hb3.cell (p := ⟨wr.heap.size, 2, none⟩) (by simp)).trans (by rw [World.cell?_alloc_at _ _ _ _ rfl]; rfl); have HM3 := Lib.hid (ownsMap_below (HM.out.alloc (.cells #[.string xu, .int .i64 xv, .slice xA xs.length xc] 45)) hb3 (by have := HM.out.lt; simp; omega)); have HB3 := Lib.hid ((HB.out.alloc hbs (.cells #[.string xu, .int .i64 xv, .slice xA xs.length xc] 45)).trans (hb3.mono (by simp; omega))); have HO3 := Lib.hid (Own.below (Own.alloc HO.out (.cells #[.string xu, .int .i64 xv, .slice xA xs.length xc] 45)) hb3))
            go_ret2
            exact ⟨.inr ⟨13, wholeR_err HX.out HW.out (step_twice HANY.out), rfl⟩, HB3.out⟩
          · have hany2 : (l.take k).any (fun y => decide (y.uri = xu)) = false := by simpa using hany
            rw [hany2] at hct
            have HCT := Lib.hid hct
            have HANY := Lib.hid hany2
            clear hct hany hany2
            cases hfi : firstAt docs xu with
            | none =>
              have hhas := (HWD.out xu).2 hfi
              have HFI := Lib.hid hfi
              clear hfi
              go_wp2_with (first | (go_at_call 35; refine HCT.out.mono ?_; rintro e w3 ⟨rfl, hb3⟩; have k0 : w3.cell? ⟨wr.heap.size, 0, none⟩ = some (.string xu) := (hb3.cell (p := ⟨wr.heap.size, 0, none⟩) (by simp)).trans (by rw [World.cell?_alloc_at _ _ _ _ rfl]; rfl); have k1 : w3.cell? ⟨wr.heap.size, 1, none⟩ = some (.int .i64 xv) := (hb3.cell (p := ⟨wr.heap.size, 1, none⟩) (by simp)).trans (by rw [World.cell?_alloc_at _ _ _ _ rfl]; rfl); have k2 : w3.cell? ⟨wr.heap.size, 2, none⟩ = some (.slice xA xs.length xc) := (hb3.cell (p := ⟨wr.heap.size, 2, none⟩) (by simp)).trans (by rw [World.cell?_alloc_at _ _ _ _ rfl]; rfl); have HM3 := Lib.hid (ownsMap_below (HM.out.alloc (.cells #[.string xu, .int .i64 xv, .slice xA xs.length xc] 45)) hb3 (by have := HM.out.lt; simp; omega)); have HB3 := Lib.hid ((HB.out.alloc hbs (.cells #[.string xu, .int .i64 xv, .slice xA xs.length xc] 45)).trans (hb3.mono (by simp; omega))); have HO3 := Lib.hid (Own.below (Own.alloc HO.out (.cells #[.string xu, .int .i64 xv, .slice xA xs.length xc] 45)) hb3)) | (at_lookup; go_must (refine wpList_lookup_own_ok_int _ rfl _ _ 78 rfl 9 3 .i64 law9 Try.underlying78 Try.underlying3 (zero3 _) w.heap.size (docs.length - 0) D (by rfl) HM3.out _ (keyU xu) (by rfl) HKEY.out ?_); intro cc hat hwc))
              go_ret2
              exact ⟨.inr ⟨5, wholeR_err HX.out HW.out (step_gone HANY.out HFI.out), rfl⟩, HB3.out⟩
            | some i =>
              obtain ⟨hhas, hat0⟩ := (HWD.out xu).1 i hfi
              obtain ⟨d, hd, hdu⟩ := first_at hfi
              obtain ⟨du, dt, dv⟩ := d
              dsimp only at hdu
              subst hdu
              have HFI := Lib.hid hfi
              have HDK := Lib.hid hd
              have HAT := Lib.hid hat0
              have hil : i < docs.length := (List.getElem?_eq_some_iff.1 hd).1
              have hi0 : (0 : Int) ≤ (i : Int) := by omega
              have hi1 : (i : Int) < (docs.length : Int) := by omega
              obtain ⟨b', off', hA', hbl', _, G2', G3'⟩ := row3_at HR.out hd rfl
              subst hA'
              have hdl2 := ((HF.out).2.2.1 _ (List.mem_of_getElem? hd)).1
              dsimp only at hdl2
              clear hfi hat0 hd
              have HLK := Lib.hid (show ∀ cc : Int, D.atKey (keyU du) (.lit (.int .i64 0)) = .lit (.int .i64 cc) → cc = (i : Int) from fun cc h => by
                have e := h.symm.trans HAT.out
                unfold intD at e
                injection e with e
                injection e)
              have G2 := Lib.hid G2'
              have G3 := Lib.hid G3'
              clear G2' G3'
              by_cases hv : dv = xv
              · subst hv
                go_wp2_with (first | (go_at_call 35; refine HCT.out.mono ?_; rintro e w3 ⟨rfl, hb3⟩; have k0 : w3.cell? ⟨wr.heap.size, 0, none⟩ = some (.string du) := (hb3.cell (p := ⟨wr.heap.size, 0, none⟩) (by simp)).trans (by rw [World.cell?_alloc_at _ _ _ _ rfl]; rfl); have k1 : w3.cell? ⟨wr.heap.size, 1, none⟩ = some (.int .i64 dv) := (hb3.cell (p := ⟨wr.heap.size, 1, none⟩) (by simp)).trans (by rw [World.cell?_alloc_at _ _ _ _ rfl]; rfl); have k2 : w3.cell? ⟨wr.heap.size, 2, none⟩ = some (.slice xA xs.length xc) := (hb3.cell (p := ⟨wr.heap.size, 2, none⟩) (by simp)).trans (by rw [World.cell?_alloc_at _ _ _ _ rfl]; rfl); have HM3 := Lib.hid (ownsMap_below (HM.out.alloc (.cells #[.string du, .int .i64 dv, .slice xA xs.length xc] 45)) hb3 (by have := HM.out.lt; simp; omega)); have HB3 := Lib.hid ((HB.out.alloc hbs (.cells #[.string du, .int .i64 dv, .slice xA xs.length xc] 45)).trans (hb3.mono (by simp; omega))); have HO3 := Lib.hid (Own.below (Own.alloc HO.out (.cells #[.string du, .int .i64 dv, .slice xA xs.length xc] 45)) hb3); have g3 := (HB3.out.cell (p := ⟨b', off' + i * 3 + 2, none⟩) hbl').trans G3.out) | (at_lookup; go_must (refine wpList_lookup_own_ok_int _ rfl _ _ 78 rfl 9 3 .i64 law9 Try.underlying78 Try.underlying3 (zero3 _) w.heap.size (docs.length - 0) D (by rfl) HM3.out _ (keyU du) (by rfl) HKEY.out ?_); intro cc hat hwc; obtain rfl := HLK.out cc hat) | go_quiet (fail))
                generalize hWq : World.drewN _ _ = wq
                have hbq : Below w3.heap.size w3 wq := by rw [← hWq]; exact below_draws (Below.refl _ _) _
                clear hWq
                have hqs := hbq.size
                have hs3 := HB3.out.size
                have hlt1 : b' < wq.heap.size := by omega
                have h3s : wr.heap.size + 1 ≤ w3.heap.size := by have := hb3.size; simpa using this
                have hlt2 : wr.heap.size < wq.heap.size := by omega
                have g2q : wq.cell? ⟨b', off' + i * 3 + 1, none⟩ = some (.string dt) := (hbq.cell (p := ⟨b', off' + i * 3 + 1, none⟩) (by simp only []; omega)).trans ((HB3.out.cell (p := ⟨b', off' + i * 3 + 1, none⟩) hbl').trans G2.out)
                have k2q : wq.cell? ⟨wr.heap.size, 2, none⟩ = some (.slice xA xs.length xc) := (hbq.cell (p := ⟨wr.heap.size, 2, none⟩) (by simp only []; omega)).trans k2
                have hrow : RowOf Spl.cells 3 wq.drew wq.drew.heap.size xA xs := (((HD.out _ HXM.out).below HB3.out (Nat.le_refl _)).below hbq hs3).more (Nat.le_trans hs3 hqs)
                have HAPP := Lib.hid (apply_small xA xc xs dt wq.drew HXS.out.1 HXS.out.2.1 (by omega) hrow)
                have HSD := Lib.hid (step_done (x := ⟨du, dv, xA, xc, xs⟩) (out := out) HANY.out HFI.out HDK.out rfl)
                have HSU := Lib.hid (step_unfit (x := ⟨du, dv, xA, xc, xs⟩) (out := out) HANY.out HFI.out HDK.out rfl)
                dsimp only at HSD HSU
                obtain ⟨E, hE⟩ : ∃ E, applyE dt xs = E := ⟨_, rfl⟩
                obtain ⟨S1, hS1⟩ : ∃ S1, applyB dt xs = S1 := ⟨_, rfl⟩
                have HE1 := Lib.hid hE
                have HS1 := Lib.hid hS1
                have HOq := Lib.hid (Own.below HO3.out hbq)
                have HMq := Lib.hid (ownsMap_below HM3.out hbq HM3.out.lt)
                have HBq := Lib.hid (HB3.out.trans (hbq.mono hs3))
                clear hrow hE hS1 hdl2 k0 k1 k2 g3 hb3 hbq
                by_cases hE0 : E = 0
                · subst hE0
                  go_region_held3 (fun w' => w'.cell? ⟨b', off' + i * 3 + 1, none⟩ = some (.string dt) ∧ w'.cell? ⟨wr.heap.size, 2, none⟩ = some (.slice xA xs.length xc))
                    (first
                      | go_keep
                      | exact ⟨(hb4.cell (p := ⟨b', off' + i * 3 + 1, none⟩) hlt1).trans g2q, (hb4.cell (p := ⟨wr.heap.size, 2, none⟩) hlt2).trans k2q⟩)
                    (first | (go_at_call 16; refine HAPP.out.mono ?_; rintro e w4 ⟨hret, hb4⟩; rw [RetApply, HE1.out, HS1.out] at hret; subst hret))
                  have HB4 := Lib.hid (HBq.out.drew.trans (hb4.mono HBq.out.size))
                  have hown3 := Own.below (Own.drew HOq.out) hb4
                  have hmap4 := ownsMap_below HMq.out.drew hb4 HMq.out.lt
                  obtain ⟨A1, c1, rfl, _⟩ := Own.row Dc.len hown3
                  have hpo : i < out.length := by rw [HOL.out]; exact hil
                  obtain ⟨o, ho⟩ := get_some hpo
                  obtain ⟨g, rfl, hgB, e1, e2, hown4⟩ := own_setText hown3 ho S1
                  have hpo2 : (i : Int) < (out.length : Int) := by omega
                  have HO4 := Lib.hid hown4
                  have HM4 := Lib.hid (hmap4.setCell (a := ⟨g, i * 3 + 1, none⟩) (by simp only []; omega) (.string S1))
                  clear hb4 hown3 hown4 ho hpo hmap4
                  go_wp2
                  go_roundw
                  case rel => exact ⟨k + 1, setText out i S1, by omega, by go_num, by rw [← HS1.out]; exact wholeR_step HX.out HW.out (HSD.out HE1.out), by rw [setText_len, HOL.out], HO4.out, HB4.out.setCell (p := ⟨g, i * 3 + 1, none⟩) (by simp only []; omega) _, HM4.out⟩
                  case measure => simp [intOf]; omega
                · have hne : (E != 0) = true := by simpa using hE0
                  go_region_held3 (fun w' => w'.cell? ⟨b', off' + i * 3 + 1, none⟩ = some (.string dt) ∧ w'.cell? ⟨wr.heap.size, 2, none⟩ = some (.slice xA xs.length xc))
                    (first
                      | go_keep
                      | exact ⟨(hb4.cell (p := ⟨b', off' + i * 3 + 1, none⟩) hlt1).trans g2q, (hb4.cell (p := ⟨wr.heap.size, 2, none⟩) hlt2).trans k2q⟩)
                    (first | (go_at_call 16; refine HAPP.out.mono ?_; rintro e w4 ⟨hret, hb4⟩; rw [RetApply, HE1.out, HS1.out] at hret; subst hret))
                  have HB4 := Lib.hid (HBq.out.drew.trans (hb4.mono HBq.out.size))
                  clear hb4
                  go_wp2
                  go_ret2
                  exact ⟨.inr ⟨E, by rw [← HE1.out]; exact wholeR_err HX.out HW.out (HSU.out (by rw [HE1.out]; exact hE0)), rfl⟩, HB4.out⟩
              · have hv2 : decide (dv = xv) = false := by simpa using hv
                go_wp2_with (first | (go_at_call 35; refine HCT.out.mono ?_; rintro e w3 ⟨rfl, hb3⟩; have k0 : w3.cell? ⟨wr.heap.size, 0, none⟩ = some (.string du) := (hb3.cell (p := ⟨wr.heap.size, 0, none⟩) (by simp)).trans (by rw [World.cell?_alloc_at _ _ _ _ rfl]; rfl); have k1 : w3.cell? ⟨wr.heap.size, 1, none⟩ = some (.int .i64 xv) := (hb3.cell (p := ⟨wr.heap.size, 1, none⟩) (by simp)).trans (by rw [World.cell?_alloc_at _ _ _ _ rfl]; rfl); have k2 : w3.cell? ⟨wr.heap.size, 2, none⟩ = some (.slice xA xs.length xc) := (hb3.cell (p := ⟨wr.heap.size, 2, none⟩) (by simp)).trans (by rw [World.cell?_alloc_at _ _ _ _ rfl]; rfl); have HM3 := Lib.hid (ownsMap_below (HM.out.alloc (.cells #[.string du, .int .i64 xv, .slice xA xs.length xc] 45)) hb3 (by have := HM.out.lt; simp; omega)); have HB3 := Lib.hid ((HB.out.alloc hbs (.cells #[.string du, .int .i64 xv, .slice xA xs.length xc] 45)).trans (hb3.mono (by simp; omega))); have HO3 := Lib.hid (Own.below (Own.alloc HO.out (.cells #[.string du, .int .i64 xv, .slice xA xs.length xc] 45)) hb3); have g3 := (HB3.out.cell (p := ⟨b', off' + i * 3 + 2, none⟩) hbl').trans G3.out) | (at_lookup; go_must (refine wpList_lookup_own_ok_int _ rfl _ _ 78 rfl 9 3 .i64 law9 Try.underlying78 Try.underlying3 (zero3 _) w.heap.size (docs.length - 0) D (by rfl) HM3.out _ (keyU du) (by rfl) HKEY.out ?_); intro cc hat hwc; obtain rfl := HLK.out cc hat) | go_quiet (fail))
                go_ret2
                exact ⟨.inr ⟨18, wholeR_err HX.out HW.out (step_ver HANY.out HFI.out HDK.out hv), rfl⟩, below_draws HB3.out _⟩
        · obtain rfl : k = l.length := by omega
          have hw2 := HW.out
          rw [List.take_length, List.drop_length, wholeR] at hw2
          obtain ⟨A1, c1, rfl, hrow⟩ := Own.row Dc.len HO.out
          have HW2 := Lib.hid hw2
          have HROW := Lib.hid hrow
          clear hw2 hrow
          go_wp2
          go_ret2
          exact ⟨.inl ⟨out, HW2.out, HOL.out, A1, c1, rfl, HROW.out⟩, HB.out⟩
    · obtain ⟨j, rfl⟩ : ∃ j, k = j + 1 := ⟨k - 1, by omega⟩
      obtain ⟨d, hd⟩ := get_some (l := docs) (k := j) (by omega)
      obtain ⟨du, dt, dv⟩ := d
      obtain ⟨b, off, hA, hbl, h1, h2, h3⟩ := row3_at (HR.out.below HB.out (Nat.le_refl _)) hd rfl
      have HDJ := Lib.hid hd
      subst hA
      have hj0 : (0 : Int) ≤ (j : Int) := by omega
      have hj1 : (j : Int) < (docs.length : Int) := by omega
      have hkey : keyOf Try.prog 9 (.string du) = some (keyU du) := WideMaps.keyOf_string_mk Try.underlying9 (by have := ((HF.out).2.2.1 _ (List.mem_of_getElem? hd)).2; unfold maxLen; exact this)
      have HKEY := Lib.hid hkey
      have hn : docs.length - (j + 1) < maxLen := by unfold maxLen; omega
      have HNN := Lib.hid hn
      clear hd hkey hk0 hn
      have hsub : ((j + 1 : Nat) : Int) - 1 = (j : Int) := by omega
      rw [hsub]
      go_wp2_with (at_mapUpdate; go_must (refine wpList_mapUpdate_own _ rfl _ _ _ 78 rfl 9 3 law9 Try.underlying78 _ w.heap.size (docs.length - (j + 1)) D (by rfl) HM.out HNN.out _ _ _ (by rfl) (by rfl) HKEY.out (intD j) [] (plainElem_int Try.underlying3 (WalkArith.wf_i64 (by omega))) ?_); intro w1 hown1 hgrow1)
      go_roundw
      case rel =>
        refine ⟨j, D.put (keyU du) (intD j), by omega, by go_num, ?_, HWH.out.step HM.out.isMap HDJ.out, HB.out.grown hgrow1 hbs (fun q hq => by cases hq; exact Nat.le_refl _)⟩
        rw [show docs.length - j = docs.length - (j + 1) + 1 by omega]
        exact hown1
      case measure => simp [intOf]
end Go.Proofs.Ytfflfbnnohlipaa
