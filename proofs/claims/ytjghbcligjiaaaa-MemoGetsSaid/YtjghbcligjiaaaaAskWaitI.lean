/- ask of a key that is being made. -/
import Derived.Test.YtjghbcligjiaaaaInst
import Derived.Test.YtjghbcligjiaaaaEnds
import Derived.WalkSpells
namespace Go.Proofs.Ytjghbcligjiaaaa
open Go.RowKit Go.Maps Go.Sort
set_option linter.unusedVariables false
set_option linter.unusedSimpArgs false

theorem Try.info3I : (Try.prog.info? 3).map (fun i => (i.zero, i.size, i.bytes)) = some (some (.int .i64 0), 1, 8) := by kernel_rfl
theorem ask_ownI {S : MS Int} {B : MB} {k : ByteArray} {f : Fl} (w : World) (st : Int) (h : MemoAt Try.prog Ti w st S B) (hk : getK S.kept k = none) (hf : getK S.making k = some f) (hks : k.size ≤ maxLen) :
    Calls Try.prog 36 #[.pointer (some ⟨B.m, 0, none⟩), .string k, .int .i64 f.who] w fun e w' => e = .returned (.tuple #[(.int .i64 0), .pointer (some ⟨f.blk, 0, none⟩), .int .i64 3]) ∧ w' = w := by
  have hC := cells_of h.obj
  have hl := look_vals h Vi law9 Try.underlying49 (key9 hks)
  have hl2 := look_flts h law9 Try.underlying79 (zrun83 w) (key9 hks)
  rw [hk] at hl
  rw [hf] at hl2
  simp only [valOf, ptrOf, Option.isSome_some, Option.isSome_none] at hl hl2
  have hF := fcells_of (h.fls _ (getK_mem hf))
  have c3 := hC.c3
  have c5 := hC.c5
  have f0 := hF.c0
  clear hk hf h hC hF
  go_enter Try.func36, Try.ntmps36
  go_wp2_with fail
  go_ret3
  exact ⟨rfl, rfl⟩
theorem ask_waitsI {S : MS Int} {B : MB} {k : ByteArray} {f : Fl} (who : Int) (w : World) (st : Int) (h : MemoAt Try.prog Ti w st S B) (hk : getK S.kept k = none) (hf : getK S.making k = some f) (hks : k.size ≤ maxLen) (hw : ¬ f.who = who) (hm : who ∈ f.wait) :
    Calls Try.prog 36 #[.pointer (some ⟨B.m, 0, none⟩), .string k, .int .i64 who] w fun e w' => e = .returned (.tuple #[(.int .i64 0), .pointer (some ⟨f.blk, 0, none⟩), .int .i64 3]) ∧ ∃ q, w' = w.drewN q := by
  have hC := cells_of h.obj
  have hl := look_vals h Vi law9 Try.underlying49 (key9 hks)
  have hl2 := look_flts h law9 Try.underlying79 (zrun83 w) (key9 hks)
  rw [hk] at hl
  rw [hf] at hl2
  simp only [valOf, ptrOf, Option.isSome_some, Option.isSome_none] at hl hl2
  have hF := fcells_of (h.fls _ (getK_mem hf))
  have hct := contains_any f.ws f.wait who w (h.fls _ (getK_mem hf)).row
  rw [decide_eq_true hm] at hct
  have HCT := Lib.hid hct
  have c3 := hC.c3
  have c5 := hC.c5
  have f0 := hF.c0
  have f1 := hF.c1
  clear hk hf h hC hF hct hm
  go_enter Try.func36, Try.ntmps36
  go_wp2_with (go_at_call 49; refine HCT.out.mono ?_; rintro e w1 ⟨rfl, q, rfl⟩)
  go_ret3
  exact ⟨rfl, _, rfl⟩
set_option maxRecDepth 8000 in
theorem ask_waitI {S : MS Int} {B : MB} {k : ByteArray} {f : Fl} (who : Int) (w : World) (st : Int) (h : MemoAt Try.prog Ti w st S B) (hk : getK S.kept k = none) (hf : getK S.making k = some f) (hks : k.size ≤ maxLen) (hw : ¬ f.who = who) (hm : ¬ who ∈ f.wait) (hb : f.wait.length ≤ 1000000) :
    Calls Try.prog 36 #[.pointer (some ⟨B.m, 0, none⟩), .string k, .int .i64 who] w fun e w' => e = .returned (.tuple #[(.int .i64 0), .pointer (some ⟨f.blk, 0, none⟩), .int .i64 3]) ∧
      ∃ ws', MemoAt Try.prog Ti w' st { S with making := setK S.making k { f with wait := f.wait ++ [who], ws := ws' } } B ∧
      (∀ b ∈ foot { S with making := setK S.making k { f with wait := f.wait ++ [who], ws := ws' } } B, b ∈ foot S B ∨ w.heap.size ≤ b) ∧ Only (foot S B) w w' := by
  have hC := cells_of h.obj
  have hl := look_vals h Vi law9 Try.underlying49 (key9 hks)
  have hl2 := look_flts h law9 Try.underlying79 (zrun83 w) (key9 hks)
  rw [hk] at hl
  rw [hf] at hl2
  simp only [valOf, ptrOf, Option.isSome_some, Option.isSome_none] at hl hl2
  have hF := fcells_of (h.fls _ (getK_mem hf))
  have hrow := (h.fls _ (getK_mem hf)).row
  have hct := contains_any f.ws f.wait who w hrow
  rw [decide_eq_false hm] at hct
  obtain ⟨i3, hi3, hz0, hz1, hz2⟩ := info_parts Try.info3I
  have hblt := h.lt f.blk (fl_foot hf (by simp [flFoot]))
  have hbo := (h.fls _ (getK_mem hf)).obj
  have hq1 := (h.fl_ws hf).1
  have H := Lib.hid h
  have HFF := Lib.hid hf
  have HCT := Lib.hid hct
  have HR := Lib.hid hrow
  have HB := Lib.hid hb
  have HO := Lib.hid hbo
  have HQ := Lib.hid hq1
  have c3 := hC.c3
  have c5 := hC.c5
  have f0 := hF.c0
  have f1 := hF.c1
  clear hk hf h hC hF hct hm hrow hb hbo hq1
  go_enter Try.func36, Try.ntmps36
  go_wp2_with (first
    | (go_at_call 49; refine HCT.out.mono ?_; rintro e w1 ⟨rfl, q, rfl⟩)
    | (at_builtin; go_must (refine wpList_append_off (w := (w.drewN q).alloc (.cells #[.int .i64 who] 3)) rfl _ _ 25 rfl 3 i3 _ 8 Try.underlying25 hi3 hz0 hz1 hz2 rfl f.ws _ rfl (HR.out.keep (fun p hp => Go.heap_alloc_old (w.drewN q) _ (HR.out.lt p hp))) ⟨(w.drewN q).heap.size, 0, none⟩ (.int .i64 who) rfl (cell_one_new (w.drewN q) (.int .i64 who) 3 0 _ rfl) rfl (by rw [List.length_map]; have := HB.out; unfold maxLen; omega) (by rw [List.length_map]; have := HB.out; omega) ?_); go_must (intro g off cap w2 hr2 hg2 hb2; have hm2 : w2.heap[f.blk]? = some (.cells #[.int .i64 f.who, f.ws, .chan (some f.ch), Ti.zero] Ti.fl (0, 0)) := (hg2.block f.blk (by rw [World.size_alloc]; exact Nat.lt_succ_of_lt hblt) (fun e => HQ.out e.symm)).trans ((Go.heap_alloc_old (w.drewN q) _ hblt).trans HO.out); have d1 : w2.cell? ⟨f.blk, 1, none⟩ = some f.ws := (by rw [cell_of_row _ _ _ _ _ _ hm2]; rfl); have d2 : ∀ j, w2.frozen? ⟨f.blk, j, none⟩ = false := (fun j => by simp [World.frozen?, hm2]); have HR2 := Lib.hid hr2; have HG2 := Lib.hid hg2; have HB2 := Lib.hid hb2; have HM2 := Lib.hid hm2; clear hr2 hg2 hb2 hm2)))
  go_ret3
  have hr2 := HR2.out
  rw [List.length_map] at hr2
  obtain ⟨⟨a1, a2⟩, a3⟩ := end_wait (who := who) (W := w.drewN q) H.out HFF.out ⟨rfl, rfl, rfl, Nat.le_refl _, fun _ _ _ => rfl⟩ HG2.out HB2.out hr2 (by simp)
  exact ⟨rfl, _, a1, a2, a3⟩
end Go.Proofs.Ytjghbcligjiaaaa
