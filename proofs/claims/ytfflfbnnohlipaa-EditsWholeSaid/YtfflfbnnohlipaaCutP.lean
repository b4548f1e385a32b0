/- emendlaw07.pieces: the first cuts, their first parts, each text cut. -/
import Derived.Test.YtfflfbnnohlipaaCuts
import Derived.Test.YtfflfbnnohlipaaMem2
namespace Go.Proofs.Ytfflfbnnohlipaa
open Go.RowKit
set_option linter.unusedVariables false
set_option linter.unusedSimpArgs false

/-- Rows whose elements are of different types never share a block. -/
theorem own_ne {α β : Type} {cs : α → List Value} {cs' : β → List Value} {sz sz' : Nat} {e e' : TypeId} {w : World} {B B' : Nat} {v v' : Value} {l : List α} {l' : List β}
    (h : Own cs sz e w B v l) (h' : Own cs' sz' e' w B' v' l') (hne : e ≠ e') : v.ownBlock = none ∨ v.ownBlock ≠ v'.ownBlock := by
  rcases h.2 with ⟨rfl, _⟩ | ⟨g, cap, cur, rfl, _, hg, _⟩
  · exact .inl rfl
  · rcases h'.2 with ⟨rfl, _⟩ | ⟨g', cap', cur', rfl, _, hg', _⟩
    · exact .inr (by simp [Value.ownBlock])
    · refine .inr fun e0 => ?_
      simp only [Value.ownBlock, Option.some.injEq] at e0
      subst e0
      rw [hg] at hg'
      injection hg' with hg'
      injection hg' with _ ht
      exact hne ht
theorem Own.grown_other {α β : Type} {cs : α → List Value} {cs' : β → List Value} {sz sz' : Nat} {e e' : TypeId} {w w' : World} {B B' : Nat} {v v' : Value} {l : List α} {l' : List β}
    (h : Own cs sz e w B v l) (h' : Own cs' sz' e' w B' v' l') (hne : e ≠ e') (hg : w.grownBy w' v'.ownBlock) : Own cs sz e w' B v l := h.kept hg (own_ne h h' hne)
theorem Own.less {α : Type} {cs : α → List Value} {sz : Nat} {e : TypeId} {w : World} {B B' : Nat} {v : Value} {l : List α} (h : Own cs sz e w B v l) (hB : B' ≤ B) : Own cs sz e w B' v l := by
  refine ⟨h.1, ?_⟩
  rcases h.2 with hn | ⟨g, cap, cur, rfl, hb, rest⟩
  · exact .inl hn
  · exact .inr ⟨g, cap, cur, rfl, by omega, rest⟩

theorem Own.setCell {α : Type} {cs : α → List Value} {sz : Nat} {e : TypeId} {w : World} {B : Nat} {v : Value} {l : List α} (h : Own cs sz e w B v l) (p : Addr) (u : Value) (hne : ∀ k, v.ownBlock = some k → k ≠ p.block) : Own cs sz e (w.setCell p u) B v l := by
  refine ⟨h.1, ?_⟩
  rcases h.2 with hn | ⟨g, cap, cur, rfl, hb, hgg, rest⟩
  · exact .inl hn
  · exact .inr ⟨g, cap, cur, rfl, hb, by rw [Below.heap_setCell _ _ _ _ (hne g rfl)]; exact hgg, rest⟩

def cutP (p : Prt) : Prt := { p with text := p.text.extract 0 (if (300 : Int) < (p.text.size : Int) then (300 : Int) else (p.text.size : Int)).toNat }

/-- A cut without the places where its parts lie. -/
def RCut.bare (x : RCut) : Int × Int × List Prt := (x.frm, x.to, x.parts)
def cutC (x : RCut) : Int × Int × List Prt := (x.frm, x.to, (x.parts.take 12).map cutP)
def piecesC (l : List RCut) : List (Int × Int × List Prt) := (l.take 20).map cutC

/-- Each of the cuts has a row of parts of the call's own. -/
def DeepOwn (w : World) (B : Nat) (l : List RCut) : Prop := ∀ x ∈ l, Own Prt.cells 4 62 w B (.slice x.A x.parts.length x.cap) x.parts

theorem DeepOwn.nil_ {w : World} {B : Nat} : DeepOwn w B [] := fun x hx => by cases hx
theorem DeepOwn.deep {w : World} {B : Nat} {l : List RCut} (h : DeepOwn w B l) : Deep w w.heap.size l := by
  intro x hx
  obtain ⟨A, c, hv, hr⟩ := Own.row Prt.len (h x hx)
  injection hv with h1 _ _
  rw [h1]
  exact hr

/-- The call hands back cuts that are as said. -/
def RetCuts (L : List (Int × Int × List Prt)) (e : Ending) (w : World) : Prop := ∃ l : List RCut, l.map RCut.bare = L ∧ RetRow RCut.cells 3 l e w ∧ Deep w w.heap.size l

/-- Each text is as long as Go's may be. -/
def FitC (l : List RCut) : Prop := ∀ x ∈ l, x.parts.length ≤ 9223372036854775807 ∧ ∀ p ∈ x.parts, p.text.size ≤ 9223372036854775807

set_option maxRecDepth 100000 in
set_option maxHeartbeats 6400000 in
theorem cuts_any (A : Option Addr) (c : Nat) (l : List RCut) (w : World) (hl : l.length ≤ 9223372036854775807) (hr : RowOf RCut.cells 3 w w.heap.size A l) (hdp : Deep w w.heap.size l) (hfit : FitC l) :
    Calls Try.prog 22 #[.slice A l.length c] w fun e w' => RetCuts (piecesC l) e w' ∧ Below w.heap.size w w' := by
  obtain ⟨i65, hi65, hz0, hz1, hz2⟩ := info_parts Try.info65
  obtain ⟨i62, hi62, hy0, hy1, hy2⟩ := info_parts Try.info62
  have HR := Lib.hid hr
  have HD := Lib.hid hdp
  have HF := Lib.hid hfit
  clear hr hdp hfit
  go_enter Try.func22, Try.ntmps22
  go_wp2_with fail
  go_loopw [3, 4] (fun v i wr => ∃ (k : Nat) (o : List RCut), k ≤ l.length ∧ k ≤ 20 ∧ i = .int .i64 k ∧ o.map RCut.bare = (l.take k).map cutC ∧ o.length = k ∧ Own RCut.cells 3 65 wr w.heap.size v o ∧ DeepOwn wr w.heap.size o ∧ Below w.heap.size w wr) (fun _ i _ => 20 - (intOf i).toNat)
  case atStart => exact ⟨0, [], Nat.zero_le _, by omega, rfl, rfl, rfl, Own.nil_, DeepOwn.nil_, Below.refl _ _⟩
  case round =>
    obtain ⟨k, o, hk, hk20, rfl, hbare, hol, hown, hdo, hb⟩ := hrel
    have HBA := Lib.hid hbare
    have HOL := Lib.hid hol
    have HO := Lib.hid hown
    have HDO := Lib.hid hdo
    have HB := Lib.hid hb
    have hbs := hb.size
    clear hbare hol hown hdo hb
    by_cases hgo : k < l.length ∧ k < 20
    · obtain ⟨hlt, hlt20⟩ := hgo
      obtain ⟨x, hx⟩ := get_some hlt
      obtain ⟨xf, xt, xA, xc, ps⟩ := x
      obtain ⟨b, off, hA, hbl, h1, h2, h3⟩ := RCut.at_ (HR.out.below HB.out (Nat.le_refl _)) hx
      have hxm := List.mem_of_getElem? hx
      have hpl := (HF.out _ hxm).1
      have hpt := (HF.out _ hxm).2
      have hrow := HD.out _ hxm
      have HX := Lib.hid hx
      have HPT := Lib.hid hpt
      have HROW := Lib.hid hrow
      subst hA
      clear hx hxm hpt hrow
      dsimp only at h1 h2 h3 hpl
      have hk0 : (0 : Int) ≤ (k : Int) := by omega
      have hk1 : (k : Int) < (l.length : Int) := by omega
      obtain ⟨wo, rfl⟩ : ∃ wo : World, wo = wr := ⟨_, rfl⟩
      go_wp2
      have hbn : b < wo.heap.size := by omega
      go_region_held3 (fun w' => w'.cell? ⟨b, off + k * 3, none⟩ = some (.int .i64 xf) ∧ w'.cell? ⟨b, off + k * 3 + 1, none⟩ = some (.int .i64 xt)) (first | go_keep) (fail)
      go_wp2_with fail
      go_loopw [6] (fun j X => ∃ (q : Nat) (v : Value), q ≤ ps.length ∧ q ≤ 12 ∧ j = .int .i64 q ∧ X.heap[wo.heap.size]? = some (.cells #[.int .i64 xf, .int .i64 xt, v] 65 (0, 0)) ∧
          Own Prt.cells 4 62 X (wo.heap.size + 1) v ((ps.take q).map cutP) ∧ Below wo.heap.size wo X) (fun j _ => 12 - (intOf j).toNat)
      case atStart => exact ⟨0, .slice none 0 0, Nat.zero_le _, by omega, rfl, new_at (w := wo) rfl, Own.nil_, ((Below.refl _ _).alloc (Nat.le_refl _) _).drew⟩
      case round =>
        obtain ⟨q, v, hq, hq12, rfl, hbox, hpo, hbx⟩ := hrel
        have hbxs := hbx.size
        have hbxl := (Array.getElem?_eq_some_iff.1 hbox).1
        have g3 := (hbx.cell (p := ⟨b, off + k * 3 + 2, none⟩) (by simp; omega)).trans h3
        have HBX := Lib.hid hbx
        have HPO := Lib.hid hpo
        have HBOX := Lib.hid hbox
        clear hbx hpo hbox
        by_cases hgq : q < ps.length ∧ q < 12
        · obtain ⟨hqt, hqt12⟩ := hgq
          obtain ⟨p, hp⟩ := get_some hqt
          obtain ⟨b', off', hA', hbl', p1, p2, p3, p4⟩ := Prt.at_ ((HROW.out.below HB.out (Nat.le_refl _)).below HBX.out hbs) hp
          have hps := HPT.out p (List.mem_of_getElem? hp)
          have hsn := take_snoc hp
          have HP := Lib.hid hsn
          have hlen : ((ps.take q).map cutP).length ≤ 12 := by simp; omega
          have HL := Lib.hid hlen
          have hq0 : (0 : Int) ≤ (q : Int) := by omega
          have hq1 : (q : Int) < (ps.length : Int) := by omega
          have e2 : wr.cell? ⟨wo.heap.size, 2, none⟩ = some v := by rw [cell_of_row _ _ _ _ _ _ HBOX.out]; rfl
          have e3 : wr.frozen? ⟨wo.heap.size, 2, none⟩ = false := by have := HBOX.out; simp [World.frozen?, this]
          subst hA'
          clear hp hsn hlen HROW
          have hne : ∀ u, v.ownBlock = some u → u ≠ wo.heap.size := fun u hu e => by
            have := (Own.lt HPO.out u hu).1
            omega
          have HNE := Lib.hid hne
          clear hne
          go_wp2_with (at_builtin; go_must (refine wpList_append_rec (cs := Prt.cells) rfl _ _ 63 rfl 62 i62 _ 40 Try.underlying63 hi62 hy0 hy1 hy2 rfl (by decide) Prt.len Prt.one _ (wo.heap.size + 1) _ _ _ (cutP p) _ rfl rfl rfl (by simp) (Own.alloc HPO.out _) (by unfold maxLen; have := HL.out; omega) (by have := HL.out; omega) (by rw [World.size_alloc]; omega) ?_; intro gg cap w' hown' hg hat hltg; have hd0 := (hg.block wo.heap.size (by rw [World.size_alloc]; omega) (fun e => HNE.out _ e.symm rfl)).trans ((Below.heap_alloc _ _ _ hbxl).trans HBOX.out); have hd1 : w'.cell? ⟨wo.heap.size, 2, none⟩ = some v := (by rw [cell_of_row _ _ _ _ _ _ hd0]; rfl); have hd2 : w'.frozen? ⟨wo.heap.size, 2, none⟩ = false := (by simp [World.frozen?, hd0]); have HD0 := Lib.hid hd0; clear hd0))
          go_roundw
          case rel =>
            have hlq : ((ps.take q).map cutP).length = q := by simp; omega
            rw [hlq] at hown'
            refine ⟨q + 1, .slice (some ⟨gg, 0, none⟩) (q + 1) cap, by omega, by omega, by go_num, ?_, ?_, ?_⟩
            · simp [World.setCell, Array.getElem?_modify, HD0.out]
            · rw [HP.out, List.map_append]
              exact Own.setCell hown' _ _ (fun u hu => by have := (Own.lt hown' u hu).1; simp only []; omega)
            · exact (below_grown ((HBX.out.alloc hbxs _)) (Own.less (Own.alloc HPO.out _) (Nat.le_succ _)) (by rw [World.size_alloc]; omega) hg).setCell (p := ⟨wo.heap.size, 2, none⟩) (Nat.le_refl _) _
          case measure => simp [intOf]; omega
        · have hall : (ps.take q).map cutP = (ps.take 12).map cutP := by
            congr 1
            by_cases h : q = 12
            · rw [h]
            · have : q = ps.length := by omega
              rw [this, List.take_length, List.take_of_length_le (by omega)]
          have hpo := HPO.out
          rw [hall] at hpo
          obtain ⟨A', c', hv, _⟩ := Own.row Prt.len hpo
          subst hv
          have HPO2 := Lib.hid hpo
          clear hpo hall
          have hol : o.length ≤ 20 := by have := HOL.out; omega
          have HL := Lib.hid hol
          clear hol
          have e0 : wr.cell? ⟨wo.heap.size, 0, none⟩ = some (.int .i64 xf) := by rw [cell_of_row _ _ _ _ _ _ HBOX.out]; rfl
          have e1 : wr.cell? ⟨wo.heap.size, 1, none⟩ = some (.int .i64 xt) := by rw [cell_of_row _ _ _ _ _ _ HBOX.out]; rfl
          have e2 : wr.cell? ⟨wo.heap.size, 2, none⟩ = some (.slice A' ((ps.take 12).map cutP).length c') := by rw [cell_of_row _ _ _ _ _ _ HBOX.out]; rfl
          have HOW := Lib.hid (Own.below HO.out HBX.out)
          have HDW := Lib.hid (fun (y : RCut) (hy : y ∈ o) => Own.below (HDO.out y hy) HBX.out)
          generalize hpsl : (ps.take 12).map cutP = pl at *
          have HPL := Lib.hid hpsl
          clear hpsl HPO HROW
          have hfin : ∀ gg cap w', Own RCut.cells 3 65 w' w.heap.size (.slice (some ⟨gg, 0, none⟩) (o.length + 1) cap) (o ++ [⟨xf, xt, A', c', pl⟩]) → wr.grownBy w' u3.ownBlock →
              ∃ (k1 : Nat) (o1 : List RCut), k1 = k + 1 ∧ o1.map RCut.bare = (l.take (k + 1)).map cutC ∧ o1.length = k + 1 ∧ Own RCut.cells 3 65 w' w.heap.size (.slice (some ⟨gg, 0, none⟩) (o.length + 1) cap) o1 ∧ DeepOwn w' w.heap.size o1 ∧ Below w.heap.size w w' := by
            intro gg cap w' hown' hg
            refine ⟨k + 1, o ++ [⟨xf, xt, A', c', pl⟩], rfl, ?_, by rw [List.length_append, HOL.out]; rfl, hown', ?_, below_grown (HB.out.trans (HBX.out.mono hbs)) HOW.out (by omega) hg⟩
            · rw [take_snoc HX.out, List.map_append, List.map_append, HBA.out]
              simp [RCut.bare, cutC, HPL.out]
            · intro y hy
              rcases List.mem_append.1 hy with hy | hy
              · exact Own.grown_other (HDW.out y hy) HOW.out (by decide) hg
              · simp only [List.mem_singleton] at hy
                subst hy
                exact Own.less (Own.grown_other HPO2.out HOW.out (by decide) hg) (by omega)
          have HFIN := Lib.hid hfin
          clear hfin
          by_cases hq3 : q < ps.length
          · have hq4 : ¬ ((q : Int) < 12) := by omega
            go_wp2_with (at_builtin; go_must (refine wpList_append_rec (cs := RCut.cells) rfl _ _ 51 rfl 65 i65 _ 40 Try.underlying51 hi65 hz0 hz1 hz2 rfl (by decide) RCut.len RCut.one wr w.heap.size _ u3 o ⟨xf, xt, A', c', pl⟩ _ rfl (by rfl) (by rfl) rfl HOW.out (by unfold maxLen; have := HL.out; omega) (by have := HL.out; omega) (by omega) ?_); intro gg cap w' hown' hg hat hltg)
            go_roundw
            case rel =>
              obtain ⟨k1, o1, rfl, f1, f2, f3, f4, f5⟩ := HFIN.out gg cap w' hown' hg
              exact ⟨k + 1, o1, by omega, by omega, by go_num, f1, f2, f3, f4, f5⟩
            case measure => simp [intOf]; omega
          · go_wp2_with (at_builtin; go_must (refine wpList_append_rec (cs := RCut.cells) rfl _ _ 51 rfl 65 i65 _ 40 Try.underlying51 hi65 hz0 hz1 hz2 rfl (by decide) RCut.len RCut.one wr w.heap.size _ u3 o ⟨xf, xt, A', c', pl⟩ _ rfl (by rfl) (by rfl) rfl HOW.out (by unfold maxLen; have := HL.out; omega) (by have := HL.out; omega) (by omega) ?_); intro gg cap w' hown' hg hat hltg)
            go_roundw
            case rel =>
              obtain ⟨k1, o1, rfl, f1, f2, f3, f4, f5⟩ := HFIN.out gg cap w' hown' hg
              exact ⟨k + 1, o1, by omega, by omega, by go_num, f1, f2, f3, f4, f5⟩
            case measure => simp [intOf]; omega
    · have hall : l.take k = l.take 20 := by
        by_cases h : k = 20
        · rw [h]
        · have : k = l.length := by omega
          rw [this, List.take_length, List.take_of_length_le (by omega)]
      have hba := HBA.out
      rw [hall] at hba
      obtain ⟨A', c', hv, hrow⟩ := Own.row RCut.len HO.out
      subst hv
      have HF2 := Lib.hid (show RetCuts (piecesC l) (.returned (.slice A' o.length c')) wr from ⟨o, hba, ⟨A', c', rfl, hrow⟩, DeepOwn.deep HDO.out⟩)
      clear hall hba hrow
      by_cases hlt : k < l.length
      · have hk3 : ¬ ((k : Int) < 20) := by omega
        go_wp2
        go_ret
        exact ⟨HF2.out, HB.out⟩
      · go_wp2
        go_ret
        exact ⟨HF2.out, HB.out⟩
end Go.Proofs.Ytfflfbnnohlipaa
