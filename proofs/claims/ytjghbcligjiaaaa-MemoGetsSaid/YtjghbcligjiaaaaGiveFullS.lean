/- give of a key that the giver makes, where there is no room left. -/
import Derived.Test.YtjghbcligjiaaaaInst
import Derived.Test.YtjghbcligjiaaaaGiveYesS
import Derived.WalkSpells
import Derived.Deep.QuietTactic
import Derived.BigQuiet
import Derived.StillTailTactics
namespace Go.Proofs.Ytjghbcligjiaaaa
open Go.RowKit Go.Maps Go.Sort
set_option linter.unusedVariables false
set_option linter.unusedSimpArgs false

set_option maxRecDepth 100000 in
set_option maxHeartbeats 1600000 in
theorem give_fullS {S : MS ByteArray} {B : MB} {k : ByteArray} {f : Fl} (x : ByteArray) (w : World) (st : Int) (h : MemoAt Try.prog Ts w st S B) (hf : getK S.making k = some f) (hks : k.size ≤ maxLen) (hx : x.size ≤ maxLen) (hb : S.kept.length ≤ 1000000) (hm : S.most < S.kept.length + 1) (hm2 : 1 ≤ S.most) :
    Calls Try.prog 46 #[.pointer (some ⟨B.m, 0, none⟩), .string k, .int .i64 f.who, Value.string x] w fun e w' => ∃ ws, e = .returned (.tuple #[ws, .int .i64 0]) ∧ GaveRS S B k x f st w ws w' := by
  have hC := cells_of h.obj
  have hl2 := look_flts h law9 Try.underlying98 (zrun101 w) (key9 hks)
  rw [hf] at hl2
  simp only [ptrOf, Option.isSome_some] at hl2
  have hF := fcells_of (h.fls _ (getK_mem hf))
  obtain ⟨i9, hi9, hz0, hz1, hz2⟩ := info_parts Try.info9gS
  obtain ⟨D, hD, hTD⟩ := h.vals
  obtain ⟨E, hE, hTE⟩ := h.flts
  have g0 := GS.start h hD hE
  have hkm : k ∈ keys S.making := by
    rcases Classical.em (k ∈ keys S.making) with h | h
    · exact h
    · rw [getK_none.2 h] at hf; cases hf
  have hne : keys S.making ≠ [] := fun e => by rw [e] at hkm; cases hkm
  have hcon := fun v w' (hr : OffRow 9 w' v ((keys S.making).map Value.string)) => without_any (keys S.making) hne k v w' hr
  have hlk : (keys S.kept).length = S.kept.length := by simp [keys]
  have f0 := hF.c0
  have c5 := hC.c5
  have H0 := Lib.hid h
  have HF := Lib.hid hf
  have G0 := Lib.hid g0
  have HC := Lib.hid hcon
  have HTD := Lib.hid hTD
  have HTE := Lib.hid hTE
  have HX := Lib.hid hx
  have HB := Lib.hid hb
  have HM := Lib.hid hm
  clear h hf g0 hcon hTD hTE hx hb hC hF hD hE hne hkm hm hlk
  go_enter Try.func46, Try.ntmps46
  go_wp2_with (first
    | (at_delete; go_must (refine wpList_delete_own _ rfl _ _ 98 9 rfl 101 law9 Try.underlying98 ptrElem B.bf S.making.length E rfl G0.out.flts (.string k) (litS k) rfl (key9 hks) ?_; intro w1 ho1 ht1; have g1 := G0.out.delF H0.out ho1 ht1; have hc1 := g1.cells; have d6 := hc1.c6; have G1 := Lib.hid g1; clear ho1 ht1 g1 hc1))
    | (go_at_call 48; go_must (refine (HC.out B.bs w1 (by have := G1.out.began; simpa [keys, List.map_map, Function.comp_def] using this)).mono ?_; rintro e w2 ⟨v2, rfl, hr2, hv2, hg2⟩; obtain ⟨A2, n2, c2, hve⟩ := hr2.shape; subst hve; have g2 := G1.out.setB H0.out hr2 hv2 hg2; have hm2 := (hg2.block B.m G1.out.lt.1 (fun e => (G1.out.apart H0.out).2 _ e.symm |>.1 rfl)).trans G1.out.obj; have hc2 := cells_of hm2; have e3 := hc2.c3; have e6 := hc2.c6; have e7 := hc2.fz; have G2 := Lib.hid g2; clear hr2 hv2 hg2 g2 hm2 hc2))
    | (at_mapUpdate; go_must (refine wpList_mapUpdate_in _ rfl _ _ _ 97 rfl 9 9 law9 Try.underlying97 (plainElem Try.prog 9) B.bv S.kept.length D rfl G2.out.vals (by have := HB.out; unfold maxLen; omega) (.string k) (Value.string x) (litS k) rfl rfl (key9 hks) (Ts.rdv x) [] (Vs.fwd x HX.out) ?_; intro w3 ho3 ht3; have g3 := G2.out.turnV H0.out ho3 ht3; have hc3 := g3.cells; have h4 := hc3.c4; have G3 := Lib.hid g3; clear ho3 ht3 g3 hc3))
    | (at_builtin; go_must (refine wpList_append_off (w := w3.alloc (.cells #[.string k] 9)) rfl _ _ 30 rfl 9 i9 _ 16 Try.underlying30 hi9 hz0 hz1 hz2 rfl B.us _ rfl (G3.out.used.keep (fun q hq => Go.heap_alloc_old w3 _ (G3.out.used.lt q hq))) ⟨w3.heap.size, 0, none⟩ (.string k) rfl (cell_one_new w3 (.string k) 9 0 _ rfl) rfl (by rw [List.length_map]; have := HB.out; unfold maxLen; omega) (by rw [List.length_map]; have := HB.out; omega) ?_); go_must (intro g off cap w4 hr4 hg4 hb4; rw [List.length_map] at hr4; have g4 := G3.out.appU H0.out hr4 hb4 hg4; have hm4 := (hg4.block B.m (by rw [World.size_alloc]; exact Nat.lt_succ_of_lt G3.out.lt.1) (fun e => (G3.out.apart H0.out).1 _ e.symm |>.1 rfl)).trans ((Go.heap_alloc_old w3 _ G3.out.lt.1).trans G3.out.obj); have hc4 := cells_of (B := { B with us := B.us, bs := .slice A2 n2 c2 }) hm4; have k2 := hc4.c2; have k4 := hc4.c4; have k7 := hc4.fz; have G4 := Lib.hid g4; clear hr4 hg4 hb4 g4 hm4 hc4))
    | fail)
  have g5 := G4.out
  generalize hW5 : w4.setCell ⟨B.m, 4, none⟩ (.slice (some ⟨g, off, none⟩) (S.kept.length + 1) cap) = W5 at g5 ⊢
  have hc5 := g5.cells
  have p2 := hc5.c2
  have p4 := hc5.c4
  have hfl := g5.fl H0.out HF.out
  have hfo := hfl.obj
  have q1 : W5.cell? ⟨f.blk, 1, none⟩ = some f.ws := by rw [cell_of_row _ _ _ _ _ _ hfo]; rfl
  have q2 : W5.cell? ⟨f.blk, 2, none⟩ = some (.chan (some f.ch)) := by rw [cell_of_row _ _ _ _ _ _ hfo]; rfl
  have q3 : W5.cell? ⟨f.blk, 3, none⟩ = some (.string ⟨#[]⟩) := by rw [cell_of_row _ _ _ _ _ _ hfo]; rfl
  have q7 : ∀ j, W5.frozen? ⟨f.blk, j, none⟩ = false := fun j => by simp [World.frozen?, hfo]
  have G5 := Lib.hid g5
  have HFL := Lib.hid hfl
  have HM' := HM.out
  have hgt : (S.most : Int) < (S.kept.length : Int) + 1 := by omega
  obtain ⟨p0, rr, hhd, htl, hrl⟩ := head_of S.kept k x
  have p3 := hc5.c3
  have p7 := hc5.fz
  have hus := g5.used
  have hue : S.kept.map (fun p => Value.string p.1) ++ [Value.string k] = Value.string p0.1 :: rr.map (fun p => Value.string p.1) := by
    have := congrArg (List.map (fun p : ByteArray × ByteArray => Value.string p.1)) hhd
    simpa using this
  rw [hue] at hus
  have hkk : k ∉ keys S.kept := fun hm => H0.out.apart k hm (by rcases Classical.em (k ∈ keys S.making) with h | h; exact h; rw [getK_none.2 h] at HF; cases HF.out)
  have hnd : (keys (p0 :: rr)).Nodup := by rw [← hhd, keys_app]; exact nodup_app H0.out.ukept hkk
  have hp0 : W5.cell? ⟨g, off, none⟩ = some (.string p0.1) := by
    obtain ⟨g', off', cap', hv, _, _, hc, _⟩ := hus.form (by simp)
    simp only [Value.slice.injEq, Option.some.injEq, Addr.mk.injEq] at hv
    obtain ⟨⟨rfl, rfl, _⟩, _⟩ := hv
    have := hc 0 _ rfl
    simpa using this
  clear hW5 hfo hfl hc5 g5 HM' e3 e6 e7 d6 h4 k2 k4 k7
  go_quiet (fail)
  go_wp2_with fail
  have y3 : ∀ t d s o, ({ heap := W5.heap, tape := t, drawn := d, os := s, output := o } : World).cell? ⟨B.m, 3, none⟩ = some (.map (some B.bv)) := fun _ _ _ _ => p3
  have y4 : ∀ t d s o, ({ heap := W5.heap, tape := t, drawn := d, os := s, output := o } : World).cell? ⟨B.m, 4, none⟩ = some (.slice (some ⟨g, off, none⟩) (S.kept.length + 1) cap) := fun _ _ _ _ => p4
  have y5 : ∀ t d s o, ({ heap := W5.heap, tape := t, drawn := d, os := s, output := o } : World).cell? ⟨g, off, none⟩ = some (.string p0.1) := fun _ _ _ _ => hp0
  go_still_tail 10, (by kernel_rfl)
  change wpList _ _ _ _ _ (W5.drewN nq).drew
  have g6 := G5.out.same (w1 := (W5.drewN nq).drew) rfl rfl rfl rfl
  have hDT := HTD.out.put x hkk
  have hp0s : p0.1.size ≤ maxLen := by
    refine key_size Try.underlying9 g6.vals ?_
    rw [hDT.has, hhd, getK_cons, if_pos rfl]; rfl
  generalize hW6 : (W5.drewN nq).drew = W6 at g6 ⊢
  rw [hue] at g6
  have G6 := Lib.hid g6
  have HDT := Lib.hid hDT
  have HUE := Lib.hid hue
  have HHD := Lib.hid hhd
  have HTL := Lib.hid htl
  have HND := Lib.hid hnd
  have HKK := Lib.hid hkk
  have hkey0 := key9 hp0s
  clear g6 hDT hW6 y3 y4 y5 p2 p3 p4 p7 q1 q2 q3 q7 hp0 hp0s HFL hus hue hhd htl hnd hkk
  have hne := (H0.out.fl_ws HF.out).2.2
  have hnm := (H0.out.fl_out HF.out f.blk (by simp [flFoot])).1
  have hnc := (H0.out.fl_out HF.out f.ch (by simp [flFoot])).1
  have hcap : S.kept.length + 1 ≤ cap := by
    obtain ⟨g', off', cap', hv, hc, _, _, _⟩ := G6.out.used.form (by simp)
    simp only [Value.slice.injEq] at hv
    obtain ⟨_, e1, rfl⟩ := hv
    omega
  have hkl : 1 ≤ S.kept.length := by have := HM.out; omega
  have hcn : ¬ cap = 1 := by omega
  have hcn2 : ¬ cap - 1 = 0 := by omega
  have hcap63 : cap ≤ 9223372036854775807 := by
    rcases G6.out.used with ⟨_, hh⟩ | ⟨g', off', cap', cur, hv, _, _, hc, _⟩
    · cases hh
    · simp only [Value.slice.injEq] at hv
      obtain ⟨_, _, rfl⟩ := hv
      unfold maxLen at hc
      exact hc
  go_wp2_with (at_delete; go_must (refine wpList_delete_own _ rfl _ _ 97 9 rfl 9 law9 Try.underlying97 (plainElem Try.prog 9) B.bv (S.kept.length + 1) _ rfl G6.out.vals (.string p0.1) (litS p0.1) rfl hkey0 ?_; intro w7 ho7 ht7; have g7 := G6.out.turnV H0.out ho7 ht7; have hc7 := g7.cells; have z4 := hc7.c4; have z7 := hc7.fz; have hus := g7.used; have g8 := g7.setU0 H0.out hus.tail rfl; have hfl7 := g8.fl H0.out HF.out; have hf7 := (g7.fl H0.out HF.out).obj; have q3 : w7.cell? ⟨f.blk, 3, none⟩ = some (.string ⟨#[]⟩) := (by rw [cell_of_row _ _ _ _ _ _ hf7]; rfl); have q2 : w7.cell? ⟨f.blk, 2, none⟩ = some (.chan (some f.ch)) := (by rw [cell_of_row _ _ _ _ _ _ hf7]; rfl); have q7 : ∀ j, w7.frozen? ⟨f.blk, j, none⟩ = false := (fun j => by simp [World.frozen?, hf7]); obtain ⟨w9, hcl, hw9, o1, o2, o3⟩ := run_close_some (P := Try.prog) (w := (w7.setCell ⟨B.m, 4, none⟩ (.slice (some ⟨g, off + 1, none⟩) S.kept.length (cap - 1))).setCell ⟨f.blk, 3, none⟩ (Value.string x)) #[86] 0 f.ch ((set_other hne).trans hfl7.chan); have r1 := close_cell (T := Ts) hfl7 hne hw9; have HW9 := Lib.hid hw9; have HO1 := Lib.hid o1; have HO2 := Lib.hid o2; have HO3 := Lib.hid o3; have G8 := Lib.hid g8; clear ho7 ht7 g7 hc7 hus g8 hfl7 hf7 hw9 o1 o2 o3))
  go_ret2
  refine ⟨_, rfl, rfl, ?_⟩
  rw [if_pos HM.out, HTL.out]
  have hTV : Tie Ts.rdv ((D.put (litS k) (Ts.rdv x)).del (litS p0.1)) rr := by
    have h1 := HDT.out
    rw [HHD.out] at h1
    have h2 := h1.del HND.out p0.1
    rw [dropK_head HND.out] at h2
    exact h2
  refine ⟨_, _, G8.out.done H0.out HF.out (K' := rr) rfl ?_ hTV (HTE.out.del H0.out.umaking k) ?_ (fun k' hk' => ?_) w9 HW9.out HO1.out HO2.out HO3.out⟩
  · rw [← keys_dropK]
    simp [keys, List.map_map, Function.comp_def]
  · have := HND.out
    simp only [keys, List.map_cons, List.nodup_cons] at this
    exact this.2
  · have hmm : k' ∈ keys (S.kept ++ [(k, x)]) := by rw [HHD.out]; exact List.mem_cons_of_mem _ hk'
    rw [keys_app] at hmm
    rcases List.mem_append.1 hmm with h | h
    · exact .inl h
    · exact .inr (by simpa using h)
end Go.Proofs.Ytjghbcligjiaaaa
