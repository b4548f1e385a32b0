/- ask of a key that nobody makes. -/
import Derived.Test.YtjghbcligjiaaaaInst
import Derived.Test.YtjghbcligjiaaaaEnds
import Derived.WalkSpells
namespace Go.Proofs.Ytjghbcligjiaaaa
open Go.RowKit Go.Maps Go.Sort
set_option linter.unusedVariables false
set_option linter.unusedSimpArgs false

theorem Try.info71I : (Try.prog.info? 71).map (fun i => i.bytes) = some 0 := by kernel_rfl
theorem Try.info9mI : (Try.prog.info? 9).map (fun i => (i.zero, i.size, i.bytes)) = some (some (.string ⟨#[]⟩), 1, 16) := by kernel_rfl
set_option maxRecDepth 100000 in
theorem ask_makeI {S : MS Int} {B : MB} {k : ByteArray} (who : Int) (w : World) (st : Int) (h : MemoAt Try.prog Ti w st S B) (hk : getK S.kept k = none) (hf : getK S.making k = none) (hks : k.size ≤ maxLen) (hb : S.making.length ≤ 1000000) :
    Calls Try.prog 36 #[.pointer (some ⟨B.m, 0, none⟩), .string k, .int .i64 who] w fun e w' => ∃ b, e = .returned (.tuple #[(.int .i64 0), .pointer (some ⟨b, 0, none⟩), .int .i64 2]) ∧ AskMade Try.prog Ti S B k who st w b w' := by
  have hC := cells_of h.obj
  have hl := look_vals h Vi law9 Try.underlying49 (key9 hks)
  have hl2 := look_flts h law9 Try.underlying79 (zrun83 w) (key9 hks)
  rw [hk] at hl
  rw [hf] at hl2
  simp only [valOf, ptrOf, Option.isSome_some, Option.isSome_none] at hl hl2
  obtain ⟨i71, hi71, hz71⟩ := Option.map_eq_some_iff.1 Try.info71I
  have hmc : ∀ w : World, (Instr.makeChan 86 (.int .i64 0)).run Try.prog w = .ok (.chan (some w.heap.size)) (w.alloc (.chan 0 #[] false 0 0 false)) := fun w => by
    simpa using Go.Conc.run_makeChan (P := Try.prog) (w := w) Try.underlying86 hi71 .i64 0 (by omega) (by rw [hz71]; omega)
  clear hi71 hz71
  obtain ⟨i9, hi9, hz0, hz1, hz2⟩ := info_parts Try.info9mI
  have hbs : OffRow 9 w B.bs ((keys S.making).map Value.string) := by
    have := h.began
    simpa [keys, List.map_map, Function.comp_def] using this
  have hmlt := h.lt B.m foot_m
  obtain ⟨W, hW⟩ : ∃ W, (w.alloc (.chan 0 #[] false 0 0 false)).alloc (.cells #[.int .i64 who, .slice none 0 0, .chan (some w.heap.size), Ti.zero] Ti.fl) = W := ⟨_, rfl⟩
  have hWs : W.heap.size = w.heap.size + 2 := by rw [← hW, World.size_alloc, World.size_alloc]
  have hWo : ∀ b, b < w.heap.size → W.heap[b]? = w.heap[b]? := fun b hb => by
    rw [← hW, Go.heap_alloc_old _ _ (by rw [World.size_alloc]; omega), Go.heap_alloc_old _ _ hb]
  obtain ⟨E, hE, hT⟩ := h.flts
  have hEW := owns_keep hE (hWo _ (h.lt _ foot_bf))
  have hmW := (hWo _ hmlt).trans h.obj
  have c5W := (cells_of (S := S) (B := B) hmW).c5
  have hkW : ∀ q, B.bs.ownBlock = some q → W.heap[q]? = w.heap[q]? := fun q hq => hWo q (h.lt q (foot_bs hq))
  have hbW := hbs.keep hkW
  have hbf := h.ne_bf
  have hnb := h.ne_bs
  have hbsf : ∀ q, B.bs.ownBlock = some q → q ≠ B.bf := fun q hq => (h.bs_us hq).2.2.1
  have c3 := hC.c3
  have c5 := hC.c5
  have HK := Lib.hid hk
  have HF := Lib.hid hf
  have HE := Lib.hid hE
  have HT := Lib.hid hT
  have HEW := Lib.hid hEW
  have HMW := Lib.hid hmW
  have HBW := Lib.hid hbW
  have HBSF := Lib.hid hbsf
  have HNB := Lib.hid hnb
  have HBF := Lib.hid hbf
  have HWS := Lib.hid hWs
  have HH := Lib.hid h
  have HB := Lib.hid hb
  have HW := Lib.hid hW
  clear hk hf hE hT hEW hmW hbW hbsf hnb hbf hWs h hb hC hWo hkW hbs
  have hne1 : ∀ o1 o2, ((w.alloc o1).alloc o2).heap.size = w.heap.size + 2 := fun o1 o2 => by rw [World.size_alloc, World.size_alloc]
  clear hne1
  rw [← hW] at c5W
  clear hW
  go_enter Try.func36, Try.ntmps36
  go_wp2_with (first
    | (at_mapUpdate; go_must (rw [HW.out]; refine wpList_mapUpdate_in _ rfl _ _ _ 79 rfl 9 83 law9 Try.underlying79 ptrElem B.bf S.making.length E rfl HEW.out (by have := HB.out; unfold maxLen; omega) (.string k) (.pointer (some ⟨w.heap.size + 1, 0, none⟩)) (litS k) rfl rfl (key9 hks) (rdp (w.heap.size + 1)) [] (ptrElem_mk _) ?_; intro w1 ho1 ht1; have hg1 := ht1.grown; have hm1 := (hg1.block B.m (by rw [HWS.out]; omega) (fun e => HBF.out (Option.some.inj e).symm)).trans HMW.out; have d6 := (cells_of (S := S) (B := B) hm1).c6; have hr1 := HBW.out.kept hg1 (fun q hq e => HBSF.out q hq (Option.some.inj e)); have HO1 := Lib.hid ho1; have HG1 := Lib.hid hg1; have HM1 := Lib.hid hm1; have HR1 := Lib.hid hr1; clear ho1 ht1 hg1 hm1 hr1))
    | (at_builtin; go_must (refine wpList_append_off (w := w1.alloc (.cells #[.string k] 9)) rfl _ _ 30 rfl 9 i9 _ 16 Try.underlying30 hi9 hz0 hz1 hz2 rfl B.bs _ rfl (HR1.out.keep (fun q hq => Go.heap_alloc_old w1 _ (HR1.out.lt q hq))) ⟨w1.heap.size, 0, none⟩ (.string k) rfl (cell_one_new w1 (.string k) 9 0 _ rfl) rfl (by unfold keys; rw [List.length_map, List.length_map]; have := HB.out; unfold maxLen; omega) (by unfold keys; rw [List.length_map, List.length_map]; have := HB.out; omega) ?_); go_must (intro g off cap w2 hr2 hg2 hb2; have hs1 := HG1.out.size; have hm2 : w2.heap[B.m]? = some (.cells (memoCells st S B) Ti.memo (0, 0)) := (hg2.block B.m (by have := HWS.out; rw [World.size_alloc]; omega) (fun e => HNB.out e.symm)).trans ((Go.heap_alloc_old w1 _ (by have := HWS.out; omega)).trans HM1.out); have hc2 := cells_of (S := S) (B := B) hm2; have e6 := hc2.c6; have e7 := hc2.fz; have HR2 := Lib.hid hr2; have HG2 := Lib.hid hg2; have HB2 := Lib.hid hb2; clear hr2 hg2 hb2 hm2 hc2)))
  go_ret3
  have hr2 := HR2.out
  rw [List.length_map] at hr2
  have hg1 := HG1.out
  rw [← HW.out] at hg1
  obtain ⟨f, a1, a2, a3, a4, a5, a6⟩ := end_make HH.out HK.out HF.out (k := k) (who := who) HO1.out HE.out HT.out hg1 HG2.out HB2.out hr2 (by simp [keys, List.map_map, Function.comp_def])
  exact ⟨_, rfl, f, _, a1, a2, a3, a4, a5, a6⟩
end Go.Proofs.Ytjghbcligjiaaaa
