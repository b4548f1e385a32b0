/- ask of a key that is kept. -/
import Derived.Test.YtjghbcligjiaaaaInst
import Derived.Test.YtjghbcligjiaaaaEnds
import Derived.WalkSpells
namespace Go.Proofs.Ytjghbcligjiaaaa
open Go.RowKit Go.Maps Go.Sort
set_option linter.unusedVariables false
set_option linter.unusedSimpArgs false

theorem Try.info9S : (Try.prog.info? 9).map (fun i => (i.zero, i.size, i.bytes)) = some (some (.string ⟨#[]⟩), 1, 16) := by kernel_rfl
theorem ask_hitS {S : MS ByteArray} {B : MB} {k : ByteArray} {x : ByteArray} (who : Int) (w : World) (st : Int) (h : MemoAt Try.prog Ts w st S B) (hk : getK S.kept k = some x) (hks : k.size ≤ maxLen) (hb : S.kept.length ≤ 1000000) :
    Calls Try.prog 45 #[.pointer (some ⟨B.m, 0, none⟩), .string k, .int .i64 who] w fun e w' => e = .returned (.tuple #[Value.string x, .pointer none, .int .i64 1]) ∧
      ∃ us', MemoAt Try.prog Ts w' st { S with kept := dropK S.kept k ++ [(k, x)] } { B with us := us' } ∧ NewOwn w B.us us' ∧ Only (foot S B) w w' := by
  have hmk : k ∈ keys S.kept := by
    rcases Classical.em (k ∈ keys S.kept) with h | h
    · exact h
    · rw [getK_none.2 h] at hk; cases hk
  have hC := cells_of h.obj
  have hl := look_vals h Vs law9 Try.underlying97 (key9 hks)
  rw [hk] at hl
  simp only [valOf, Option.isSome_some] at hl
  obtain ⟨i9, hi9, hz0, hz1, hz2⟩ := info_parts Try.info9S
  have hus : OffRow 9 w B.us ((keys S.kept).map Value.string) := by
    have := h.used
    simpa [keys, List.map_map, Function.comp_def] using this
  have hne : keys S.kept ≠ [] := fun e => by rw [e] at hmk; cases hmk
  have hw := without_any (keys S.kept) hne k B.us w hus
  have hmus : B.us.ownBlock ≠ some B.m := by
    have hn := h.nodup
    unfold foot at hn
    simp only [List.nodup_cons, List.mem_cons, List.mem_append, not_or] at hn
    exact fun e => hn.1.2.2.1 (mem_own.2 e)
  have hmlt : B.m < w.heap.size := h.lt _ (by simp [foot])
  have hlen : ((keys S.kept).filter (fun s => !decide (s = k))).length + 1 ≤ 1000001 := by
    have := List.length_filter_le (fun s => !decide (s = k)) (keys S.kept)
    unfold keys at this ⊢
    rw [List.length_map] at this
    omega
  have c3 := hC.c3
  have c4 := hC.c4
  have H := Lib.hid h
  have HW := Lib.hid hw
  have HL := Lib.hid hlen
  have HMU := Lib.hid hmus
  have HK := Lib.hid hk
  have HC := Lib.hid hC
  have hob := h.obj
  have HOB := Lib.hid hob
  clear hk hmk hne hus hw h hC hlen hmus hob
  go_enter Try.func45, Try.ntmps45
  go_wp2_with (first
    | (go_at_call 48; refine HW.out.mono ?_; rintro e w1 ⟨v1, rfl, hr1, ho1, hg1⟩; have hm1 := (hg1.block B.m hmlt (fun e => HMU.out e.symm)).trans HOB.out; have HR1 := Lib.hid hr1; have HO1 := Lib.hid ho1; have HG1 := Lib.hid hg1; have HM1 := Lib.hid hm1; clear hr1 ho1 hg1 hm1)
    | (at_builtin; go_must (refine wpList_append_off (w := w1.alloc (.cells #[.string k] 9)) rfl _ _ 30 rfl 9 i9 _ 16 Try.underlying30 hi9 hz0 hz1 hz2 rfl v1 _ rfl (HR1.out.keep (fun q hq => Go.heap_alloc_old w1 _ (HR1.out.lt q hq))) ⟨w1.heap.size, 0, none⟩ (.string k) rfl (cell_one_new w1 (.string k) 9 0 _ rfl) rfl (by rw [List.length_map]; have := HL.out; unfold maxLen; omega) (by rw [List.length_map]; have := HL.out; omega) ?_); go_must (intro g off cap w2 hr2 hg2 hb2; have hs1 := HG1.out.size; have hm2 : w2.heap[B.m]? = some (.cells (memoCells st S B) Ts.memo (0, 0)) := (hg2.block B.m (by rw [World.size_alloc]; omega) (fun e => by rw [HO1.out] at e; exact HMU.out e.symm)).trans ((Go.heap_alloc_old w1 _ (by omega)).trans HM1.out); have hc2 := cells_of (S := S) (B := B) hm2; have d4 := hc2.c4; have d5 := hc2.fz; have HR2 := Lib.hid hr2; have HG2 := Lib.hid hg2; have HB2 := Lib.hid hb2; have HM2 := Lib.hid hm2; clear hr2 hg2 hb2 hm2 hc2)))
  go_ret3
  have hr2 := HR2.out
  rw [List.length_map] at hr2
  refine ⟨rfl, _, end_hit H.out HK.out HG1.out HO1.out HG2.out HB2.out hr2 ?_⟩
  rw [List.map_append, ← keys_dropK]
  simp [keys, List.map_map, Function.comp_def]
end Go.Proofs.Ytjghbcligjiaaaa
