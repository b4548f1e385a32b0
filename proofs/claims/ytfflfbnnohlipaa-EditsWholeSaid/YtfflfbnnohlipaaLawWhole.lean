/- emendlaw07.EditsWhole: the walk. -/
import Derived.Test.YtfflfbnnohlipaaWhole
import Derived.Test.YtfflfbnnohlipaaAwake
import Derived.Test.YtfflfbnnohlipaaCut
import Derived.Test.YtfflfbnnohlipaaCutP
import Derived.Test.YtfflfbnnohlipaaFewOwn
namespace Go.Proofs.Ytfflfbnnohlipaa
open Go.RowKit
set_option linter.unusedVariables false
set_option linter.unusedSimpArgs false

def cutD (d : Dc) : Dc := { d with text := cutV d.text }
def FitD (l : List Dc) : Prop := ∀ d ∈ l, d.text.size ≤ 9223372036854775807 ∧ d.uri.size ≤ 9223372036854775807
def FitE (l : List RDe) : Prop := ∀ x ∈ l, x.uri.size ≤ 9223372036854775807 ∧ x.spl.length ≤ 9223372036854775807 ∧ Fit x.spl

theorem sep_step {b1 b2 : Option Nat} {n m m2 g g2 : Nat} (hs : b2 = none ∨ b2 ≠ b1) (hlt2 : ∀ k, b2 = some k → k < n) (hat1 : b1 = some g ∨ g = m) (hnm : n ≤ m) (hat2 : b2 = some g2 ∨ g2 = m2) (hg : g < m2) :
    (some g : Option Nat) ≠ b2 ∧ (some g2 : Option Nat) ≠ some g := by
  have h1 : (some g : Option Nat) ≠ b2 := by
    intro e
    rcases hat1 with h | h
    · rcases hs with h' | h'
      · rw [h'] at e; cases e
      · exact h' (e.symm.trans h.symm)
    · have := hlt2 g e.symm; omega
  refine ⟨h1, fun e => ?_⟩
  injection e with e
  rcases hat2 with h | h
  · exact h1 (by rw [h, e])
  · omega

theorem retWhole_same {docs : List Dc} {l : List RDe} {e : Ending} {w : World} (h : RetWhole docs l e w) : ∃ (m : List Dc) (A : Option Addr) (c : Nat) (E : Int), m.length ≤ docs.length ∧ e = .returned (.tuple #[.slice A m.length c, .int .i64 E]) ∧ RowOf Dc.cells 3 w w.heap.size A m ∧
    ∀ e' w', RetWhole docs l e' w' → ∃ A' c', e' = .returned (.tuple #[.slice A' m.length c', .int .i64 E]) ∧ RowOf Dc.cells 3 w' w'.heap.size A' m := by
  rcases h with ⟨out, hv, hl, A, c, he, hr⟩ | ⟨n, hv, he⟩
  · refine ⟨out, A, c, 0, by omega, he, hr, fun e' w' h' => ?_⟩
    rcases h' with ⟨out', hv', hl', A', c', he', hr'⟩ | ⟨n', hv', _⟩
    · rw [hv] at hv'
      injection hv' with hv'
      subst hv'
      exact ⟨A', c', he', hr'⟩
    · rw [hv] at hv'; cases hv'
  · refine ⟨[], none, 0, n, Nat.zero_le _, he, RowOf.nil_, fun e' w' h' => ?_⟩
    rcases h' with ⟨out', hv', hl', A', c', he', hr'⟩ | ⟨n', hv', he'⟩
    · rw [hv] at hv'; cases hv'
    · rw [hv] at hv'
      injection hv' with hv'
      subst hv'
      exact ⟨none, 0, he', RowOf.nil_⟩

def DeepOwnE (w : World) (B : Nat) (l : List RDe) : Prop := ∀ x ∈ l, Own Spl.cells 3 33 w B (.slice x.A x.spl.length x.cap) x.spl
def cutE (x y : RDe) : Prop := y.uri = x.uri ∧ y.ver = x.ver ∧ y.spl = fewV x.spl

theorem own_nil_iff {α : Type} {cs : α → List Value} {sz : Nat} {e : TypeId} {w : World} {B : Nat} {A : Option Addr} {n c : Nat} {l : List α} (h : Own cs sz e w B (.slice A n c) l) : (A = none → l.length = 0 ∧ c = 0) ∧ l.length ≤ c := by
  rcases h.2 with ⟨hv, h0⟩ | ⟨g, cap, cur, hv, _, _, hc, _⟩
  · injection hv with h1 h2 h3
    exact ⟨fun _ => ⟨h0, h3⟩, by omega⟩
  · injection hv with h1 h2 h3
    subst h1 h3
    exact ⟨(fun h => by cases h), hc⟩

set_option maxRecDepth 100000 in
set_option maxHeartbeats 6400000 in
theorem lawWhole (A : Option Addr) (c : Nat) (docs : List Dc) (A2 : Option Addr) (c2 : Nat) (l : List RDe) (w : World) (hdl : docs.length ≤ 9223372036854775807) (hll : l.length ≤ 9223372036854775807)
    (hr : RowOf Dc.cells 3 w w.heap.size A docs) (hr2 : RowOf RDe.cells 3 w w.heap.size A2 l) (hd : DeepE w w.heap.size l) (hfd : FitD docs) (hfe : FitE l) :
    Calls Try.prog 6 #[.agg #[.slice A docs.length c, .slice A2 l.length c2]] w fun e w' => e = .returned (.bool true) ∧ Below w.heap.size w w' := by
  obtain ⟨i43, hi43, hz0, hz1, hz2⟩ := info_parts Try.info43
  obtain ⟨i45, hi45, hy0, hy1, hy2⟩ := info_parts Try.info45
  have HR := Lib.hid hr
  have HR2 := Lib.hid hr2
  have HD := Lib.hid hd
  have HFD := Lib.hid hfd
  have HFE := Lib.hid hfe
  clear hr hr2 hd hfd hfe
  go_enter Try.func6, Try.ntmps6
  go_wp2_with fail
  go_loopw [3, 4, 5] (fun v v2 i wr => ∃ (k : Nat), k ≤ docs.length ∧ k ≤ 8 ∧ i = .int .i64 k ∧ wr.heap[w.heap.size]? = some (.cells #[.slice A docs.length c, .slice A2 l.length c2] 41) ∧ Own Dc.cells 3 43 wr (w.heap.size + 1) v ((docs.take k).map cutD) ∧ Own Dc.cells 3 43 wr (w.heap.size + 1) v2 ((docs.take k).map cutD) ∧
      (v2.ownBlock = none ∨ v2.ownBlock ≠ v.ownBlock) ∧ Below w.heap.size w wr) (fun _ _ i _ => 8 - (intOf i).toNat)
  case atStart => exact ⟨0, Nat.zero_le _, by omega, rfl, heap_alloc_new w _, Own.nil_, Own.nil_, .inl rfl, (Below.refl _ _).alloc (Nat.le_refl _) _⟩
  case round =>
    obtain ⟨k, hk, hk8, rfl, hbox, hown, hown2, hsep, hb⟩ := hrel
    have e0 : wr.cell? ⟨w.heap.size, 0, none⟩ = some (.slice A docs.length c) := by rw [cell_of_row _ _ _ _ _ _ hbox]; rfl
    have e1 : wr.cell? ⟨w.heap.size, 1, none⟩ = some (.slice A2 l.length c2) := by rw [cell_of_row _ _ _ _ _ _ hbox]; rfl
    have HBX := Lib.hid hbox
    have HO := Lib.hid hown
    have HO2 := Lib.hid hown2
    have HS := Lib.hid hsep
    have HB := Lib.hid hb
    have hbs := hb.size
    have hbl : w.heap.size < wr.heap.size := (Array.getElem?_eq_some_iff.1 hbox).1
    clear hbox hown hown2 hsep hb
    by_cases hgo : k < docs.length ∧ k < 8
    · obtain ⟨hlt, hlt8⟩ := hgo
      obtain ⟨x, hx⟩ := get_some hlt
      obtain ⟨xu, xt, xv⟩ := x
      obtain ⟨b, off, rfl, hbl', h1, h2, h3⟩ := row3_at (HR.out.below HB.out (Nat.le_refl _)) hx rfl
      have hxs := (HFD.out _ (List.mem_of_getElem? hx)).1
      have hsn := take_snoc hx
      have HSN := Lib.hid hsn
      have hk0 : (0 : Int) ≤ (k : Int) := by omega
      have hk1 : (k : Int) < (docs.length : Int) := by omega
      have hlen : ((docs.take k).map cutD).length ≤ 8 := by simp; omega
      have HL := Lib.hid hlen
      have HCUT := Lib.hid (fun W => cut_any xt W hxs)
      clear hx hsn hlen
      have hsz1 : w.heap.size + 1 ≤ wr.heap.size := hbl
      go_wp2_with (first | (go_at_call 15; refine (HCUT.out _).mono ?_; rintro e w3 ⟨rfl, rfl⟩) | (at_builtin; refine wpList_append_rec (cs := Dc.cells) rfl _ _ 38 rfl 43 i43 _ 40 Try.underlying38 hi43 hz0 hz1 hz2 rfl (by decide) Dc.len Dc.one (wr.alloc (.cells #[.string xu, .string (cutV xt), .int .i64 xv] 43)) (w.heap.size + 1) _ u3 ((docs.take k).map cutD) (cutD ⟨xu, xt, xv⟩) _ rfl (by rfl) (by rfl) (by simp) (Own.alloc HO.out _) (by unfold maxLen; have := HL.out; omega) (by have := HL.out; omega) (by rw [World.size_alloc]; omega) ?_; intro g1 cap1 w1 hown1 hg1 hat1 hltg1; have hd0 := (hg1.block wr.heap.size (by rw [World.size_alloc]; omega) (fun e => by have := (Own.lt HO.out _ e.symm).2; omega)).trans (heap_alloc_new wr _); have d0 : w1.cell? ⟨wr.heap.size, 0, none⟩ = some (.string xu) := (by rw [cell_of_row _ _ _ _ _ _ hd0]; rfl); have d1 : w1.cell? ⟨wr.heap.size, 1, none⟩ = some (.string (cutV xt)) := (by rw [cell_of_row _ _ _ _ _ _ hd0]; rfl); have d2 : w1.cell? ⟨wr.heap.size, 2, none⟩ = some (.int .i64 xv) := (by rw [cell_of_row _ _ _ _ _ _ hd0]; rfl); have hs1 := hg1.size; have hown2' := Own.kept (Own.alloc HO2.out (.cells #[.string xu, .string (cutV xt), .int .i64 xv] 43)) hg1 HS.out) | (at_builtin; refine wpList_append_rec (cs := Dc.cells) rfl _ _ 38 rfl 43 i43 _ 40 Try.underlying38 hi43 hz0 hz1 hz2 rfl (by decide) Dc.len Dc.one w1 (w.heap.size + 1) _ u4 ((docs.take k).map cutD) (cutD ⟨xu, xt, xv⟩) _ rfl (by rfl) (by rfl) rfl hown2' (by unfold maxLen; have := HL.out; omega) (by have := HL.out; omega) (by rw [World.size_alloc] at hs1; omega) ?_; intro g2 cap2 w2 hown2 hg2 hat2 hltg2))
      go_roundw
      case rel =>
        obtain ⟨s1, s2⟩ := sep_step HS.out (fun q hq => (Own.lt HO2.out q hq).2) hat1 (by rw [World.size_alloc]; omega) hat2 (by omega)
        have hmap : (docs.take k).map cutD ++ [cutD ⟨xu, xt, xv⟩] = (docs.take (k + 1)).map cutD := by rw [HSN.out, List.map_append]; rfl
        have hlm : ((docs.take k).map cutD).length + 1 = k + 1 := by simp; omega
        rw [hmap, hlm] at hown1 hown2
        have hs2 := hg2.size
        rw [World.size_alloc] at hs1
        refine ⟨k + 1, by omega, by omega, by go_num, ?_, hown1.kept hg2 (.inr s1), hown2, .inr s2, below_grown (below_grown (HB.out.alloc hbs _) (Own.less (Own.alloc HO.out _) (Nat.le_succ _)) (by rw [World.size_alloc]; omega) hg1) (Own.less hown2' (Nat.le_succ _)) (by omega) hg2⟩
        refine (hg2.block w.heap.size (by omega) (fun e => ?_)).trans ((hg1.block w.heap.size (by rw [World.size_alloc]; omega) (fun e => ?_)).trans ((Below.heap_alloc _ _ _ hbl).trans HBX.out))
        · have := (Own.lt HO2.out _ e.symm).1; omega
        · have := (Own.lt HO.out _ e.symm).1; omega
      case measure => simp [intOf]; omega
    · obtain ⟨L, hL⟩ : ∃ L, (docs.take k).map cutD = L := ⟨_, rfl⟩
      have hLL : L.length ≤ 8 := by rw [← hL]; simp; omega
      have hLF : ∀ d ∈ L, d.text.size ≤ 1500 ∧ d.uri.size ≤ 9223372036854775807 := by
        intro d hd
        rw [← hL] at hd
        obtain ⟨d0, hd0, rfl⟩ := List.mem_map.1 hd
        exact ⟨cutV_size _, (HFD.out d0 (List.mem_of_mem_take hd0)).2⟩
      have HLF := Lib.hid hLF
      rw [hL] at HO HO2
      clear hL hLF HS
      have hgo2 : ¬ ((k : Int) < (docs.length : Int) ∧ (k : Int) < 8) := by omega
      have HX : (decide ((k : Int) < (docs.length : Int)) && decide ((k : Int) < 8)) = false := by simp; omega
      by_cases hkl : k < docs.length
      · have hk8' : ¬ ((k : Int) < 8) := by omega
        clear hgo hgo2 HX
        go_wp2_with fail
        go_loopw [7, 8] (fun v i wr => ∃ (k : Nat) (o : List RDe), k ≤ l.length ∧ k ≤ 8 ∧ i = .int .i64 k ∧ wr.heap[w.heap.size]? = some (.cells #[.slice A docs.length c, .slice A2 l.length c2] 41) ∧ o.length = k ∧ (∀ x ∈ o, x.spl.length ≤ 30 ∧ Small x.spl ∧ x.uri.size ≤ 9223372036854775807) ∧
            Own RDe.cells 3 45 wr (w.heap.size + 1) v o ∧ DeepOwnE wr (w.heap.size + 1) o ∧ Own Dc.cells 3 43 wr (w.heap.size + 1) u3 L ∧ Own Dc.cells 3 43 wr (w.heap.size + 1) u4 L ∧ Below w.heap.size w wr) (fun _ i _ => 8 - (intOf i).toNat)
        case atStart => exact ⟨0, [], Nat.zero_le _, by omega, rfl, HBX.out, rfl, (fun x hx => by cases hx), Own.nil_, (fun x hx => by cases hx), HO.out, HO2.out, HB.out⟩
        case round =>
          clear HBX HO HO2 HB e0 e1 hbs hbl hk hk8 hkl
          obtain ⟨k, o, hk, hk8, rfl, hbox, hol, hfo, hown, hdeep, ho3, ho4, hb⟩ := hrel
          have e0 : wr.cell? ⟨w.heap.size, 0, none⟩ = some (.slice A docs.length c) := by rw [cell_of_row _ _ _ _ _ _ hbox]; rfl
          have e1 : wr.cell? ⟨w.heap.size, 1, none⟩ = some (.slice A2 l.length c2) := by rw [cell_of_row _ _ _ _ _ _ hbox]; rfl
          have HBX := Lib.hid hbox
          have HOL := Lib.hid hol
          have HFO := Lib.hid hfo
          have HO := Lib.hid hown
          have HDE := Lib.hid hdeep
          have HO3 := Lib.hid ho3
          have HO4 := Lib.hid ho4
          have HB := Lib.hid hb
          have hbs := hb.size
          have hbl : w.heap.size < wr.heap.size := (Array.getElem?_eq_some_iff.1 hbox).1
          clear hbox hol hfo hown hdeep ho3 ho4 hb
          by_cases hgo : k < l.length ∧ k < 8
          · obtain ⟨hlt, hlt8⟩ := hgo
            obtain ⟨x, hx⟩ := get_some hlt
            obtain ⟨xu, xv, xA, xc, xs⟩ := x
            obtain ⟨b, off, hA, hbl', h1, h2, h3⟩ := row3_at (HR2.out.below HB.out (Nat.le_refl _)) hx rfl
            have hxm := List.mem_of_getElem? hx
            have hfx := HFE.out _ hxm
            dsimp only at hfx
            subst hA
            have hk0 : (0 : Int) ≤ (k : Int) := by omega
            have hk1 : (k : Int) < (l.length : Int) := by omega
            have hsz1 : w.heap.size + 1 ≤ wr.heap.size := hbl
            have HFEW := Lib.hid (few_own xA xc xs (wr.alloc (.cells #[.string xu, .int .i64 xv, .slice xA xs.length xc] 45)) hfx.2.1 ((((HD.out _ hxm).below HB.out (Nat.le_refl _)).alloc hbs _).more (by rw [World.size_alloc]; omega)) hfx.2.2)
            have HFX := Lib.hid hfx
            have hlen : o.length ≤ 8 := by rw [HOL.out]; omega
            have HL := Lib.hid hlen
            clear hx hxm hfx hlen
            go_wp2_with (first | (go_at_call 11; refine HFEW.out.mono ?_; rintro e w3 ⟨⟨v3, rfl, hown3⟩, hb3⟩; obtain ⟨A3, c3, rfl, _⟩ := Own.row Spl.len hown3; have hd0 := (hb3.block wr.heap.size (by rw [World.size_alloc]; omega)).trans (heap_alloc_new wr _); have d0 : w3.cell? ⟨wr.heap.size, 0, none⟩ = some (.string xu) := (by rw [cell_of_row _ _ _ _ _ _ hd0]; rfl); have d1 : w3.cell? ⟨wr.heap.size, 1, none⟩ = some (.int .i64 xv) := (by rw [cell_of_row _ _ _ _ _ _ hd0]; rfl); have d2 : w3.cell? ⟨wr.heap.size, 2, none⟩ = some (.slice xA xs.length xc) := (by rw [cell_of_row _ _ _ _ _ _ hd0]; rfl); have d3 : w3.frozen? ⟨wr.heap.size, 2, none⟩ = false := (by simp [World.frozen?, hd0]); have hs3 := hb3.size; have hne : ∀ q, u7.ownBlock = some q → q ≠ wr.heap.size := (fun q hq => by have := (Own.lt HO.out q hq).2; omega); have hownO := Own.setCell (Own.below (Own.alloc HO.out (.cells #[.string xu, .int .i64 xv, .slice xA xs.length xc] 45)) hb3) ⟨wr.heap.size, 2, none⟩ (.slice A3 (fewV xs).length c3) hne) | (at_builtin; go_must (refine wpList_append_rec (cs := RDe.cells) rfl _ _ 39 rfl 45 i45 _ 48 Try.underlying39 hi45 hy0 hy1 hy2 rfl (by decide) RDe.len RDe.one (w3.setCell ⟨wr.heap.size, 2, none⟩ (.slice A3 (fewV xs).length c3)) (w.heap.size + 1) _ u7 o ⟨xu, xv, A3, c3, fewV xs⟩ _ rfl (by rfl) (by rfl) (by simp) hownO (by unfold maxLen; have := HL.out; omega) (by have := HL.out; omega) (by rw [World.size_alloc] at hs3; rw [World.size_setCell]; omega) ?_); intro g1 cap1 w4 hown4 hg4 hat4 hltg4))
            go_roundw
            case rel =>
              rw [World.size_alloc] at hs3
              have hbase := Own.lt HO.out
              have hkeep : ∀ {α : Type} {cs : α → List Value} {sz : Nat} {e : TypeId} {v : Value} {m : List α}, e ≠ 45 → Own cs sz e wr (w.heap.size + 1) v m → Own cs sz e w4 (w.heap.size + 1) v m := fun he h =>
                Own.grown_other (Own.setCell (Own.below (Own.alloc h (.cells #[.string xu, .int .i64 xv, .slice xA xs.length xc] 45)) hb3) ⟨wr.heap.size, 2, none⟩ (.slice A3 (fewV xs).length c3) (fun q hq => by have := (Own.lt h q hq).2; simp only []; omega)) hownO he hg4
              refine ⟨k + 1, o ++ [⟨xu, xv, A3, c3, fewV xs⟩], by omega, by omega, by go_num, ?_, by rw [List.length_append, HOL.out]; rfl, ?_, hown4, ?_, hkeep (by decide) HO3.out, hkeep (by decide) HO4.out,
                below_grown (((HB.out.alloc hbs _).trans (hb3.mono (by rw [World.size_alloc]; omega))).setCell (p := ⟨wr.heap.size, 2, none⟩) (by simp only []; omega) _) (Own.less hownO (Nat.le_succ _)) (by rw [World.size_setCell]; omega) hg4⟩
              · refine (hg4.block w.heap.size (by rw [World.size_setCell]; omega) (fun e => ?_)).trans ((Below.heap_setCell _ _ _ _ (by simp only []; omega)).trans ((hb3.block w.heap.size (by rw [World.size_alloc]; omega)).trans ((Below.heap_alloc _ _ _ hbl).trans HBX.out)))
                have := (hbase _ e.symm).1; omega
              · intro y hy
                rcases List.mem_append.1 hy with hy | hy
                · exact HFO.out y hy
                · simp only [List.mem_singleton] at hy
                  subst hy
                  exact ⟨fewV_len xs, small_few xs, HFX.out.1⟩
              · intro y hy
                rcases List.mem_append.1 hy with hy | hy
                · exact hkeep (by decide) (HDE.out y hy)
                · simp only [List.mem_singleton] at hy
                  subst hy
                  exact Own.less (Own.grown_other (Own.setCell hown3 ⟨wr.heap.size, 2, none⟩ (.slice A3 (fewV xs).length c3) (fun q hq => by have := (Own.lt hown3 q hq).1; rw [World.size_alloc] at this; simp only []; omega)) hownO (by decide) hg4) (by rw [World.size_alloc]; omega)
            case measure => simp [intOf]; omega
          · obtain ⟨At, ct, rfl, rt⟩ := Own.row RDe.len HO.out
            obtain ⟨Ad, cd, rfl, rd⟩ := Own.row Dc.len HO3.out
            obtain ⟨Aw, cw, rfl, rv⟩ := Own.row Dc.len HO4.out
            have n1 := own_nil_iff HO3.out
            have n2 := own_nil_iff HO.out
            have n4 := own_nil_iff HO4.out
            have hdp : DeepE wr wr.heap.size o := fun x hx => by
              obtain ⟨A', c', hv, hr'⟩ := Own.row Spl.len (HDE.out x hx)
              injection hv with h1 _ _
              rw [h1]; exact hr'
            have hfine : FineW L o := ⟨by omega, by rw [HOL.out]; omega, HLF.out, HFO.out⟩
            have HFN := Lib.hid hfine
            have HW1 := Lib.hid (whole_any Ad cd L At ct o wr hfine rd rt hdp n1.1 n2.2)
            have HN4 := Lib.hid n4.1
            have HRD := Lib.hid rd
            have HRV := Lib.hid rv
            have HRT := Lib.hid rt
            have HDP := Lib.hid hdp
            clear n1 n2 n4 rd rv rt hdp hfine HO HO3 HO4 HDE
            by_cases hkl3 : k < l.length
            · have hk8' : ¬ ((k : Int) < 8) := by omega
              clear hgo
              go_wp2_with fail
              refine HW1.out.mono ?_
              rintro e w5 ⟨hret1, hb5⟩
              obtain ⟨m, A5, c5, E, hml, rfl, r5, hsame⟩ := retWhole_same hret1
              have HSM := Lib.hid hsame
              have HB5 := Lib.hid (below_then HB.out hb5)
              have HW2 := Lib.hid (refWhole_any Aw cw L At ct o w5 HFN.out (HRV.out.after (Nat.le_refl _) hb5) (HRT.out.after (Nat.le_refl _) hb5) (HDP.out.after (Nat.le_refl _) hb5) HN4.out)
              have RD5 := Lib.hid (HRD.out.after (Nat.le_refl _) hb5)
              have RV5 := Lib.hid (HRV.out.after (Nat.le_refl _) hb5)
              have R5' := Lib.hid r5
              clear hret1 hb5 r5 hsame
              go_wp2_with fail
              refine HW2.out.mono ?_
              rintro e w6 ⟨hret2, hb6⟩
              obtain ⟨A6, c6, rfl, r6⟩ := HSM.out _ _ hret2
              have HB6 := Lib.hid (below_then HB5.out hb6)
              have RD6 := Lib.hid (RD5.out.after (Nat.le_refl _) hb6)
              have RV6 := Lib.hid (RV5.out.after (Nat.le_refl _) hb6)
              have R5 := Lib.hid (R5'.out.after (Nat.le_refl _) hb6)
              have R6 := Lib.hid r6
              have hmL : m.length ≤ 8 := by omega
              clear hret2 hb6 r6 R5' RD5 RV5
              go_wp2_with fail
              go_loopw [14] (fun i wx => ∃ (q : Nat), q ≤ m.length ∧ i = .int .i64 q ∧ Below w6.heap.size w6 wx) (fun i _ => m.length - (intOf i).toNat)
              case atStart => exact ⟨0, Nat.zero_le _, rfl, Below.refl _ _⟩
              case round =>
                obtain ⟨q, hq, rfl, hbx⟩ := hrel
                have HBX := Lib.hid hbx
                by_cases hqt : q < m.length
                · obtain ⟨y, hy⟩ := get_some hqt
                  obtain ⟨yu, yt, yv⟩ := y
                  obtain ⟨b1, off1, hA1, hbl1, g1, g2, g3⟩ := row3_at (R5.out.below hbx (Nat.le_refl _)) hy rfl
                  obtain ⟨b2, off2, hA2, hbl2, k1, k2, k3⟩ := row3_at (R6.out.below hbx (Nat.le_refl _)) hy rfl
                  subst hA1 hA2
                  have hq0 : (0 : Int) ≤ (q : Int) := by omega
                  have hq1 : (q : Int) < (m.length : Int) := by omega
                  clear hy hbx
                  go_wp2_with (go_quiet (fail))
                  go_roundw
                  case rel => exact ⟨q + 1, by omega, by go_num, below_draws HBX.out _⟩
                  case measure => simp [intOf]; omega
                · obtain rfl : q = m.length := by omega
                  clear hbx
                  obtain ⟨w7, rfl⟩ : ∃ w7 : World, w7 = wr := ⟨_, rfl⟩
                  have RD7 := Lib.hid (RD6.out.after (Nat.le_refl _) HBX.out)
                  have RV7 := Lib.hid (RV6.out.after (Nat.le_refl _) HBX.out)
                  have HB7 := Lib.hid (below_then HB6.out HBX.out)
                  clear HBX
                  go_wp2_with fail
                  go_loopw [15] (fun i wx => ∃ (q : Nat), q ≤ L.length ∧ i = .int .i64 q ∧ Below w7.heap.size w7 wx) (fun i _ => L.length - (intOf i).toNat)
                  case atStart => exact ⟨0, Nat.zero_le _, rfl, Below.refl _ _⟩
                  case round =>
                    obtain ⟨q, hq, rfl, hbx⟩ := hrel
                    have HBX := Lib.hid hbx
                    by_cases hqt : q < L.length
                    · obtain ⟨y, hy⟩ := get_some hqt
                      obtain ⟨yu, yt, yv⟩ := y
                      obtain ⟨b1, off1, hA1, hbl1, g1, g2, g3⟩ := row3_at (RD7.out.below hbx (Nat.le_refl _)) hy rfl
                      obtain ⟨b2, off2, hA2, hbl2, k1, k2, k3⟩ := row3_at (RV7.out.below hbx (Nat.le_refl _)) hy rfl
                      subst hA1 hA2
                      have hq0 : (0 : Int) ≤ (q : Int) := by omega
                      have hq1 : (q : Int) < (L.length : Int) := by omega
                      clear hy hbx
                      go_wp2_with (go_quiet (fail))
                      go_roundw
                      case rel => exact ⟨q + 1, by omega, by go_num, below_draws HBX.out _⟩
                      case measure => simp [intOf]; omega
                    · obtain rfl : q = L.length := by omega
                      clear hbx
                      go_wp2_with (go_at_call 14; refine (awake_any _).mono ?_; rintro e w9 ⟨rfl, hb9⟩)
                      go_ret
                      exact ⟨rfl, below_then (below_then HB7.out HBX.out) hb9⟩
            · clear hgo
              go_wp2_with fail
              refine HW1.out.mono ?_
              rintro e w5 ⟨hret1, hb5⟩
              obtain ⟨m, A5, c5, E, hml, rfl, r5, hsame⟩ := retWhole_same hret1
              have HSM := Lib.hid hsame
              have HB5 := Lib.hid (below_then HB.out hb5)
              have HW2 := Lib.hid (refWhole_any Aw cw L At ct o w5 HFN.out (HRV.out.after (Nat.le_refl _) hb5) (HRT.out.after (Nat.le_refl _) hb5) (HDP.out.after (Nat.le_refl _) hb5) HN4.out)
              have RD5 := Lib.hid (HRD.out.after (Nat.le_refl _) hb5)
              have RV5 := Lib.hid (HRV.out.after (Nat.le_refl _) hb5)
              have R5' := Lib.hid r5
              clear hret1 hb5 r5 hsame
              go_wp2_with fail
              refine HW2.out.mono ?_
              rintro e w6 ⟨hret2, hb6⟩
              obtain ⟨A6, c6, rfl, r6⟩ := HSM.out _ _ hret2
              have HB6 := Lib.hid (below_then HB5.out hb6)
              have RD6 := Lib.hid (RD5.out.after (Nat.le_refl _) hb6)
              have RV6 := Lib.hid (RV5.out.after (Nat.le_refl _) hb6)
              have R5 := Lib.hid (R5'.out.after (Nat.le_refl _) hb6)
              have R6 := Lib.hid r6
              have hmL : m.length ≤ 8 := by omega
              clear hret2 hb6 r6 R5' RD5 RV5
              go_wp2_with fail
              go_loopw [14] (fun i wx => ∃ (q : Nat), q ≤ m.length ∧ i = .int .i64 q ∧ Below w6.heap.size w6 wx) (fun i _ => m.length - (intOf i).toNat)
              case atStart => exact ⟨0, Nat.zero_le _, rfl, Below.refl _ _⟩
              case round =>
                obtain ⟨q, hq, rfl, hbx⟩ := hrel
                have HBX := Lib.hid hbx
                by_cases hqt : q < m.length
                · obtain ⟨y, hy⟩ := get_some hqt
                  obtain ⟨yu, yt, yv⟩ := y
                  obtain ⟨b1, off1, hA1, hbl1, g1, g2, g3⟩ := row3_at (R5.out.below hbx (Nat.le_refl _)) hy rfl
                  obtain ⟨b2, off2, hA2, hbl2, k1, k2, k3⟩ := row3_at (R6.out.below hbx (Nat.le_refl _)) hy rfl
                  subst hA1 hA2
                  have hq0 : (0 : Int) ≤ (q : Int) := by omega
                  have hq1 : (q : Int) < (m.length : Int) := by omega
                  clear hy hbx
                  go_wp2_with (go_quiet (fail))
                  go_roundw
                  case rel => exact ⟨q + 1, by omega, by go_num, below_draws HBX.out _⟩
                  case measure => simp [intOf]; omega
                · obtain rfl : q = m.length := by omega
                  clear hbx
                  obtain ⟨w7, rfl⟩ : ∃ w7 : World, w7 = wr := ⟨_, rfl⟩
                  have RD7 := Lib.hid (RD6.out.after (Nat.le_refl _) HBX.out)
                  have RV7 := Lib.hid (RV6.out.after (Nat.le_refl _) HBX.out)
                  have HB7 := Lib.hid (below_then HB6.out HBX.out)
                  clear HBX
                  go_wp2_with fail
                  go_loopw [15] (fun i wx => ∃ (q : Nat), q ≤ L.length ∧ i = .int .i64 q ∧ Below w7.heap.size w7 wx) (fun i _ => L.length - (intOf i).toNat)
                  case atStart => exact ⟨0, Nat.zero_le _, rfl, Below.refl _ _⟩
                  case round =>
                    obtain ⟨q, hq, rfl, hbx⟩ := hrel
                    have HBX := Lib.hid hbx
                    by_cases hqt : q < L.length
                    · obtain ⟨y, hy⟩ := get_some hqt
                      obtain ⟨yu, yt, yv⟩ := y
                      obtain ⟨b1, off1, hA1, hbl1, g1, g2, g3⟩ := row3_at (RD7.out.below hbx (Nat.le_refl _)) hy rfl
                      obtain ⟨b2, off2, hA2, hbl2, k1, k2, k3⟩ := row3_at (RV7.out.below hbx (Nat.le_refl _)) hy rfl
                      subst hA1 hA2
                      have hq0 : (0 : Int) ≤ (q : Int) := by omega
                      have hq1 : (q : Int) < (L.length : Int) := by omega
                      clear hy hbx
                      go_wp2_with (go_quiet (fail))
                      go_roundw
                      case rel => exact ⟨q + 1, by omega, by go_num, below_draws HBX.out _⟩
                      case measure => simp [intOf]; omega
                    · obtain rfl : q = L.length := by omega
                      clear hbx
                      go_wp2_with (go_at_call 14; refine (awake_any _).mono ?_; rintro e w9 ⟨rfl, hb9⟩)
                      go_ret
                      exact ⟨rfl, below_then (below_then HB7.out HBX.out) hb9⟩
      · clear hgo hgo2 HX
        go_wp2_with fail
        go_loopw [7, 8] (fun v i wr => ∃ (k : Nat) (o : List RDe), k ≤ l.length ∧ k ≤ 8 ∧ i = .int .i64 k ∧ wr.heap[w.heap.size]? = some (.cells #[.slice A docs.length c, .slice A2 l.length c2] 41) ∧ o.length = k ∧ (∀ x ∈ o, x.spl.length ≤ 30 ∧ Small x.spl ∧ x.uri.size ≤ 9223372036854775807) ∧
            Own RDe.cells 3 45 wr (w.heap.size + 1) v o ∧ DeepOwnE wr (w.heap.size + 1) o ∧ Own Dc.cells 3 43 wr (w.heap.size + 1) u3 L ∧ Own Dc.cells 3 43 wr (w.heap.size + 1) u4 L ∧ Below w.heap.size w wr) (fun _ i _ => 8 - (intOf i).toNat)
        case atStart => exact ⟨0, [], Nat.zero_le _, by omega, rfl, HBX.out, rfl, (fun x hx => by cases hx), Own.nil_, (fun x hx => by cases hx), HO.out, HO2.out, HB.out⟩
        case round =>
          clear HBX HO HO2 HB e0 e1 hbs hbl hk hk8 hkl
          obtain ⟨k, o, hk, hk8, rfl, hbox, hol, hfo, hown, hdeep, ho3, ho4, hb⟩ := hrel
          have e0 : wr.cell? ⟨w.heap.size, 0, none⟩ = some (.slice A docs.length c) := by rw [cell_of_row _ _ _ _ _ _ hbox]; rfl
          have e1 : wr.cell? ⟨w.heap.size, 1, none⟩ = some (.slice A2 l.length c2) := by rw [cell_of_row _ _ _ _ _ _ hbox]; rfl
          have HBX := Lib.hid hbox
          have HOL := Lib.hid hol
          have HFO := Lib.hid hfo
          have HO := Lib.hid hown
          have HDE := Lib.hid hdeep
          have HO3 := Lib.hid ho3
          have HO4 := Lib.hid ho4
          have HB := Lib.hid hb
          have hbs := hb.size
          have hbl : w.heap.size < wr.heap.size := (Array.getElem?_eq_some_iff.1 hbox).1
          clear hbox hol hfo hown hdeep ho3 ho4 hb
          by_cases hgo : k < l.length ∧ k < 8
          · obtain ⟨hlt, hlt8⟩ := hgo
            obtain ⟨x, hx⟩ := get_some hlt
            obtain ⟨xu, xv, xA, xc, xs⟩ := x
            obtain ⟨b, off, hA, hbl', h1, h2, h3⟩ := row3_at (HR2.out.below HB.out (Nat.le_refl _)) hx rfl
            have hxm := List.mem_of_getElem? hx
            have hfx := HFE.out _ hxm
            dsimp only at hfx
            subst hA
            have hk0 : (0 : Int) ≤ (k : Int) := by omega
            have hk1 : (k : Int) < (l.length : Int) := by omega
            have hsz1 : w.heap.size + 1 ≤ wr.heap.size := hbl
            have HFEW := Lib.hid (few_own xA xc xs (wr.alloc (.cells #[.string xu, .int .i64 xv, .slice xA xs.length xc] 45)) hfx.2.1 ((((HD.out _ hxm).below HB.out (Nat.le_refl _)).alloc hbs _).more (by rw [World.size_alloc]; omega)) hfx.2.2)
            have HFX := Lib.hid hfx
            have hlen : o.length ≤ 8 := by rw [HOL.out]; omega
            have HL := Lib.hid hlen
            clear hx hxm hfx hlen
            go_wp2_with (first | (go_at_call 11; refine HFEW.out.mono ?_; rintro e w3 ⟨⟨v3, rfl, hown3⟩, hb3⟩; obtain ⟨A3, c3, rfl, _⟩ := Own.row Spl.len hown3; have hd0 := (hb3.block wr.heap.size (by rw [World.size_alloc]; omega)).trans (heap_alloc_new wr _); have d0 : w3.cell? ⟨wr.heap.size, 0, none⟩ = some (.string xu) := (by rw [cell_of_row _ _ _ _ _ _ hd0]; rfl); have d1 : w3.cell? ⟨wr.heap.size, 1, none⟩ = some (.int .i64 xv) := (by rw [cell_of_row _ _ _ _ _ _ hd0]; rfl); have d2 : w3.cell? ⟨wr.heap.size, 2, none⟩ = some (.slice xA xs.length xc) := (by rw [cell_of_row _ _ _ _ _ _ hd0]; rfl); have d3 : w3.frozen? ⟨wr.heap.size, 2, none⟩ = false := (by simp [World.frozen?, hd0]); have hs3 := hb3.size; have hne : ∀ q, u7.ownBlock = some q → q ≠ wr.heap.size := (fun q hq => by have := (Own.lt HO.out q hq).2; omega); have hownO := Own.setCell (Own.below (Own.alloc HO.out (.cells #[.string xu, .int .i64 xv, .slice xA xs.length xc] 45)) hb3) ⟨wr.heap.size, 2, none⟩ (.slice A3 (fewV xs).length c3) hne) | (at_builtin; go_must (refine wpList_append_rec (cs := RDe.cells) rfl _ _ 39 rfl 45 i45 _ 48 Try.underlying39 hi45 hy0 hy1 hy2 rfl (by decide) RDe.len RDe.one (w3.setCell ⟨wr.heap.size, 2, none⟩ (.slice A3 (fewV xs).length c3)) (w.heap.size + 1) _ u7 o ⟨xu, xv, A3, c3, fewV xs⟩ _ rfl (by rfl) (by rfl) (by simp) hownO (by unfold maxLen; have := HL.out; omega) (by have := HL.out; omega) (by rw [World.size_alloc] at hs3; rw [World.size_setCell]; omega) ?_); intro g1 cap1 w4 hown4 hg4 hat4 hltg4))
            go_roundw
            case rel =>
              rw [World.size_alloc] at hs3
              have hbase := Own.lt HO.out
              have hkeep : ∀ {α : Type} {cs : α → List Value} {sz : Nat} {e : TypeId} {v : Value} {m : List α}, e ≠ 45 → Own cs sz e wr (w.heap.size + 1) v m → Own cs sz e w4 (w.heap.size + 1) v m := fun he h =>
                Own.grown_other (Own.setCell (Own.below (Own.alloc h (.cells #[.string xu, .int .i64 xv, .slice xA xs.length xc] 45)) hb3) ⟨wr.heap.size, 2, none⟩ (.slice A3 (fewV xs).length c3) (fun q hq => by have := (Own.lt h q hq).2; simp only []; omega)) hownO he hg4
              refine ⟨k + 1, o ++ [⟨xu, xv, A3, c3, fewV xs⟩], by omega, by omega, by go_num, ?_, by rw [List.length_append, HOL.out]; rfl, ?_, hown4, ?_, hkeep (by decide) HO3.out, hkeep (by decide) HO4.out,
                below_grown (((HB.out.alloc hbs _).trans (hb3.mono (by rw [World.size_alloc]; omega))).setCell (p := ⟨wr.heap.size, 2, none⟩) (by simp only []; omega) _) (Own.less hownO (Nat.le_succ _)) (by rw [World.size_setCell]; omega) hg4⟩
              · refine (hg4.block w.heap.size (by rw [World.size_setCell]; omega) (fun e => ?_)).trans ((Below.heap_setCell _ _ _ _ (by simp only []; omega)).trans ((hb3.block w.heap.size (by rw [World.size_alloc]; omega)).trans ((Below.heap_alloc _ _ _ hbl).trans HBX.out)))
                have := (hbase _ e.symm).1; omega
              · intro y hy
                rcases List.mem_append.1 hy with hy | hy
                · exact HFO.out y hy
                · simp only [List.mem_singleton] at hy
                  subst hy
                  exact ⟨fewV_len xs, small_few xs, HFX.out.1⟩
              · intro y hy
                rcases List.mem_append.1 hy with hy | hy
                · exact hkeep (by decide) (HDE.out y hy)
                · simp only [List.mem_singleton] at hy
                  subst hy
                  exact Own.less (Own.grown_other (Own.setCell hown3 ⟨wr.heap.size, 2, none⟩ (.slice A3 (fewV xs).length c3) (fun q hq => by have := (Own.lt hown3 q hq).1; rw [World.size_alloc] at this; simp only []; omega)) hownO (by decide) hg4) (by rw [World.size_alloc]; omega)
            case measure => simp [intOf]; omega
          · obtain ⟨At, ct, rfl, rt⟩ := Own.row RDe.len HO.out
            obtain ⟨Ad, cd, rfl, rd⟩ := Own.row Dc.len HO3.out
            obtain ⟨Aw, cw, rfl, rv⟩ := Own.row Dc.len HO4.out
            have n1 := own_nil_iff HO3.out
            have n2 := own_nil_iff HO.out
            have n4 := own_nil_iff HO4.out
            have hdp : DeepE wr wr.heap.size o := fun x hx => by
              obtain ⟨A', c', hv, hr'⟩ := Own.row Spl.len (HDE.out x hx)
              injection hv with h1 _ _
              rw [h1]; exact hr'
            have hfine : FineW L o := ⟨by omega, by rw [HOL.out]; omega, HLF.out, HFO.out⟩
            have HFN := Lib.hid hfine
            have HW1 := Lib.hid (whole_any Ad cd L At ct o wr hfine rd rt hdp n1.1 n2.2)
            have HN4 := Lib.hid n4.1
            have HRD := Lib.hid rd
            have HRV := Lib.hid rv
            have HRT := Lib.hid rt
            have HDP := Lib.hid hdp
            clear n1 n2 n4 rd rv rt hdp hfine HO HO3 HO4 HDE
            by_cases hkl3 : k < l.length
            · have hk8' : ¬ ((k : Int) < 8) := by omega
              clear hgo
              go_wp2_with fail
              refine HW1.out.mono ?_
              rintro e w5 ⟨hret1, hb5⟩
              obtain ⟨m, A5, c5, E, hml, rfl, r5, hsame⟩ := retWhole_same hret1
              have HSM := Lib.hid hsame
              have HB5 := Lib.hid (below_then HB.out hb5)
              have HW2 := Lib.hid (refWhole_any Aw cw L At ct o w5 HFN.out (HRV.out.after (Nat.le_refl _) hb5) (HRT.out.after (Nat.le_refl _) hb5) (HDP.out.after (Nat.le_refl _) hb5) HN4.out)
              have RD5 := Lib.hid (HRD.out.after (Nat.le_refl _) hb5)
              have RV5 := Lib.hid (HRV.out.after (Nat.le_refl _) hb5)
              have R5' := Lib.hid r5
              clear hret1 hb5 r5 hsame
              go_wp2_with fail
              refine HW2.out.mono ?_
              rintro e w6 ⟨hret2, hb6⟩
              obtain ⟨A6, c6, rfl, r6⟩ := HSM.out _ _ hret2
              have HB6 := Lib.hid (below_then HB5.out hb6)
              have RD6 := Lib.hid (RD5.out.after (Nat.le_refl _) hb6)
              have RV6 := Lib.hid (RV5.out.after (Nat.le_refl _) hb6)
              have R5 := Lib.hid (R5'.out.after (Nat.le_refl _) hb6)
              have R6 := Lib.hid r6
              have hmL : m.length ≤ 8 := by omega
              clear hret2 hb6 r6 R5' RD5 RV5
              go_wp2_with fail
              go_loopw [14] (fun i wx => ∃ (q : Nat), q ≤ m.length ∧ i = .int .i64 q ∧ Below w6.heap.size w6 wx) (fun i _ => m.length - (intOf i).toNat)
              case atStart => exact ⟨0, Nat.zero_le _, rfl, Below.refl _ _⟩
              case round =>
                obtain ⟨q, hq, rfl, hbx⟩ := hrel
                have HBX := Lib.hid hbx
                by_cases hqt : q < m.length
                · obtain ⟨y, hy⟩ := get_some hqt
                  obtain ⟨yu, yt, yv⟩ := y
                  obtain ⟨b1, off1, hA1, hbl1, g1, g2, g3⟩ := row3_at (R5.out.below hbx (Nat.le_refl _)) hy rfl
                  obtain ⟨b2, off2, hA2, hbl2, k1, k2, k3⟩ := row3_at (R6.out.below hbx (Nat.le_refl _)) hy rfl
                  subst hA1 hA2
                  have hq0 : (0 : Int) ≤ (q : Int) := by omega
                  have hq1 : (q : Int) < (m.length : Int) := by omega
                  clear hy hbx
                  go_wp2_with (go_quiet (fail))
                  go_roundw
                  case rel => exact ⟨q + 1, by omega, by go_num, below_draws HBX.out _⟩
                  case measure => simp [intOf]; omega
                · obtain rfl : q = m.length := by omega
                  clear hbx
                  obtain ⟨w7, rfl⟩ : ∃ w7 : World, w7 = wr := ⟨_, rfl⟩
                  have RD7 := Lib.hid (RD6.out.after (Nat.le_refl _) HBX.out)
                  have RV7 := Lib.hid (RV6.out.after (Nat.le_refl _) HBX.out)
                  have HB7 := Lib.hid (below_then HB6.out HBX.out)
                  clear HBX
                  go_wp2_with fail
                  go_loopw [15] (fun i wx => ∃ (q : Nat), q ≤ L.length ∧ i = .int .i64 q ∧ Below w7.heap.size w7 wx) (fun i _ => L.length - (intOf i).toNat)
                  case atStart => exact ⟨0, Nat.zero_le _, rfl, Below.refl _ _⟩
                  case round =>
                    obtain ⟨q, hq, rfl, hbx⟩ := hrel
                    have HBX := Lib.hid hbx
                    by_cases hqt : q < L.length
                    · obtain ⟨y, hy⟩ := get_some hqt
                      obtain ⟨yu, yt, yv⟩ := y
                      obtain ⟨b1, off1, hA1, hbl1, g1, g2, g3⟩ := row3_at (RD7.out.below hbx (Nat.le_refl _)) hy rfl
                      obtain ⟨b2, off2, hA2, hbl2, k1, k2, k3⟩ := row3_at (RV7.out.below hbx (Nat.le_refl _)) hy rfl
                      subst hA1 hA2
                      have hq0 : (0 : Int) ≤ (q : Int) := by omega
                      have hq1 : (q : Int) < (L.length : Int) := by omega
                      clear hy hbx
                      go_wp2_with (go_quiet (fail))
                      go_roundw
                      case rel => exact ⟨q + 1, by omega, by go_num, below_draws HBX.out _⟩
                      case measure => simp [intOf]; omega
                    · obtain rfl : q = L.length := by omega
                      clear hbx
                      go_wp2_with (go_at_call 14; refine (awake_any _).mono ?_; rintro e w9 ⟨rfl, hb9⟩)
                      go_ret
                      exact ⟨rfl, below_then (below_then HB7.out HBX.out) hb9⟩
            · clear hgo
              go_wp2_with fail
              refine HW1.out.mono ?_
              rintro e w5 ⟨hret1, hb5⟩
              obtain ⟨m, A5, c5, E, hml, rfl, r5, hsame⟩ := retWhole_same hret1
              have HSM := Lib.hid hsame
              have HB5 := Lib.hid (below_then HB.out hb5)
              have HW2 := Lib.hid (refWhole_any Aw cw L At ct o w5 HFN.out (HRV.out.after (Nat.le_refl _) hb5) (HRT.out.after (Nat.le_refl _) hb5) (HDP.out.after (Nat.le_refl _) hb5) HN4.out)
              have RD5 := Lib.hid (HRD.out.after (Nat.le_refl _) hb5)
              have RV5 := Lib.hid (HRV.out.after (Nat.le_refl _) hb5)
              have R5' := Lib.hid r5
              clear hret1 hb5 r5 hsame
              go_wp2_with fail
              refine HW2.out.mono ?_
              rintro e w6 ⟨hret2, hb6⟩
              obtain ⟨A6, c6, rfl, r6⟩ := HSM.out _ _ hret2
              have HB6 := Lib.hid (below_then HB5.out hb6)
              have RD6 := Lib.hid (RD5.out.after (Nat.le_refl _) hb6)
              have RV6 := Lib.hid (RV5.out.after (Nat.le_refl _) hb6)
              have R5 := Lib.hid (R5'.out.after (Nat.le_refl _) hb6)
              have R6 := Lib.hid r6
              have hmL : m.length ≤ 8 := by omega
              clear hret2 hb6 r6 R5' RD5 RV5
              go_wp2_with fail
              go_loopw [14] (fun i wx => ∃ (q : Nat), q ≤ m.length ∧ i = .int .i64 q ∧ Below w6.heap.size w6 wx) (fun i _ => m.length - (intOf i).toNat)
              case atStart => exact ⟨0, Nat.zero_le _, rfl, Below.refl _ _⟩
              case round =>
                obtain ⟨q, hq, rfl, hbx⟩ := hrel
                have HBX := Lib.hid hbx
                by_cases hqt : q < m.length
                · obtain ⟨y, hy⟩ := get_some hqt
                  obtain ⟨yu, yt, yv⟩ := y
                  obtain ⟨b1, off1, hA1, hbl1, g1, g2, g3⟩ := row3_at (R5.out.below hbx (Nat.le_refl _)) hy rfl
                  obtain ⟨b2, off2, hA2, hbl2, k1, k2, k3⟩ := row3_at (R6.out.below hbx (Nat.le_refl _)) hy rfl
                  subst hA1 hA2
                  have hq0 : (0 : Int) ≤ (q : Int) := by omega
                  have hq1 : (q : Int) < (m.length : Int) := by omega
                  clear hy hbx
                  go_wp2_with (go_quiet (fail))
                  go_roundw
                  case rel => exact ⟨q + 1, by omega, by go_num, below_draws HBX.out _⟩
                  case measure => simp [intOf]; omega
                · obtain rfl : q = m.length := by omega
                  clear hbx
                  obtain ⟨w7, rfl⟩ : ∃ w7 : World, w7 = wr := ⟨_, rfl⟩
                  have RD7 := Lib.hid (RD6.out.after (Nat.le_refl _) HBX.out)
                  have RV7 := Lib.hid (RV6.out.after (Nat.le_refl _) HBX.out)
                  have HB7 := Lib.hid (below_then HB6.out HBX.out)
                  clear HBX
                  go_wp2_with fail
                  go_loopw [15] (fun i wx => ∃ (q : Nat), q ≤ L.length ∧ i = .int .i64 q ∧ Below w7.heap.size w7 wx) (fun i _ => L.length - (intOf i).toNat)
                  case atStart => exact ⟨0, Nat.zero_le _, rfl, Below.refl _ _⟩
                  case round =>
                    obtain ⟨q, hq, rfl, hbx⟩ := hrel
                    have HBX := Lib.hid hbx
                    by_cases hqt : q < L.length
                    · obtain ⟨y, hy⟩ := get_some hqt
                      obtain ⟨yu, yt, yv⟩ := y
                      obtain ⟨b1, off1, hA1, hbl1, g1, g2, g3⟩ := row3_at (RD7.out.below hbx (Nat.le_refl _)) hy rfl
                      obtain ⟨b2, off2, hA2, hbl2, k1, k2, k3⟩ := row3_at (RV7.out.below hbx (Nat.le_refl _)) hy rfl
                      subst hA1 hA2
                      have hq0 : (0 : Int) ≤ (q : Int) := by omega
                      have hq1 : (q : Int) < (L.length : Int) := by omega
                      clear hy hbx
                      go_wp2_with (go_quiet (fail))
                      go_roundw
                      case rel => exact ⟨q + 1, by omega, by go_num, below_draws HBX.out _⟩
                      case measure => simp [intOf]; omega
                    · obtain rfl : q = L.length := by omega
                      clear hbx
                      go_wp2_with (go_at_call 14; refine (awake_any _).mono ?_; rintro e w9 ⟨rfl, hb9⟩)
                      go_ret
                      exact ⟨rfl, below_then (below_then HB7.out HBX.out) hb9⟩
end Go.Proofs.Ytfflfbnnohlipaa
