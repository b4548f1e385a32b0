/- A part of what the claim leans on. -/
import Derived.Test.YtacdfjlncfidgaaGreatDoorTO
namespace Go.Proofs.YtacdfjlncfidgaaGreatDoor
open Go.RowKit
set_option linter.unusedVariables false
set_option linter.unusedSimpArgs false
set_option maxRecDepth 100000
set_option maxHeartbeats 1600000
theorem box_keep11 {w0 W' : World} {b b' : Nat} {r r' : RN} (hx : w0.heap[b]? = some (boxC r)) (hx' : w0.heap[b']? = some (boxC r')) (h : Below w0.heap.size w0 W' := by repeat (first | exact zR _ | assumption | apply zA | apply zD | refine zT ?_ (by assumption))) :
  Below w0.heap.size w0 W' ∧ W'.cell? ⟨b, 0, none⟩ = some (.int .i64 r.kind) ∧ W'.cell? ⟨b, 1, none⟩ = some (.int .i64 r.fr) ∧ W'.cell? ⟨b, 2, none⟩ = some (.int .i64 r.en) ∧ W'.cell? ⟨b, 3, none⟩ = some (.int .i64 r.at_) ∧ W'.cell? ⟨b, 4, none⟩ = some (.string r.name) ∧ W'.cell? ⟨b, 5, none⟩ = some (.slice r.A r.n r.cap) ∧ W'.cell? ⟨b', 0, none⟩ = some (.int .i64 r'.kind) ∧ W'.cell? ⟨b', 1, none⟩ = some (.int .i64 r'.fr) ∧ W'.cell? ⟨b', 2, none⟩ = some (.int .i64 r'.en) ∧ W'.cell? ⟨b', 3, none⟩ = some (.int .i64 r'.at_) ∧ W'.cell? ⟨b', 4, none⟩ = some (.string r'.name) ∧ W'.cell? ⟨b', 5, none⟩ = some (.slice r'.A r'.n r'.cap) := by
 obtain ⟨-, e0, e1, e2, e3, e4, e5⟩ := box_keep hx h
 obtain ⟨-, f0, f1, f2, f3, f4, f5⟩ := box_keep hx' h
 exact ⟨h, e0, e1, e2, e3, e4, e5, f0, f1, f2, f3, f4, f5⟩
theorem lawSame (t u : Tree) (r s : RN) (w : World) (hG : LexG w) (hm : NodeM w w.heap.size t r) (hm' : NodeM w w.heap.size u s) (hf : fineT t) (hf' : fineT u) :
  Calls Tryz.prog 4 #[r.val, s.val] w fun e w' => e = .returned (.bool true) ∧ Below w.heap.size w w' := by
 obtain ⟨W0, hW0⟩ : ∃ W0, (w.alloc (boxC r)).alloc (boxC s) = W0 := ⟨_, rfl⟩
 have HX := Lib.hid (show W0.heap[w.heap.size]? = some (boxC r) ∧ W0.heap[w.heap.size + 1]? = some (boxC s) by rw [← hW0]; exact ⟨nb_alloc (heap_alloc_new _ _), new_at (by simp)⟩)
 have HB := Lib.hid (show Below w.heap.size w W0 by rw [← hW0]; exact below2 _ _ _)
 have HM := Lib.hid (fun W (hb : Below W0.heap.size W0 W) => And.intro (hm.after (Nat.le_refl _) (below_then HB.out hb)) (hm'.after (Nat.le_refl _) (below_then HB.out hb)))
 have HW := Lib.hid (fun W (hb : Below W0.heap.size W0 W) => aWorks W ((hG.below HB.out).below hb))
 have HF := Lib.hid (fun W (hb : Below W0.heap.size W0 W) => aFew t r W (HM.out W hb).1 hf)
 have HF' := Lib.hid (fun W (hb : Below W0.heap.size W0 W) => aFew u s W (HM.out W hb).2 hf')
 have hcost : decide (0 < sizeV 3000 t) = true → costT t ≤ 3000 := fun h => few_cost (of_decide_eq_true h)
 have hcost' : decide (0 < sizeV 3000 u) = true → costT u ≤ 3000 := fun h => few_cost (of_decide_eq_true h)
 generalize decide (0 < sizeV 3000 t) = d at *
 generalize decide (0 < sizeV 3000 u) = d' at *
 obtain ⟨-, e0, e1, e2, e3, e4, e5, f0, f1, f2, f3, f4, f5⟩ := box_keep11 HX.out.1 HX.out.2 (Below.refl _ _)
 clear hG hm hm' hf hf'
 cases d with
 | false =>
  clear hcost hcost'
  unfold RN.val at HF ⊢
  unfold boxC at hW0
  go_enter Tryz.func4, Tryz.ntmps4
  go_wp2_with (first | (go_at_call 11; go_must (refine (HF.out _ (Below.refl _ _)).mono ?_); rintro e wA ⟨rfl, hbA⟩) | (go_at_call 12; go_must (refine (HW.out _ hbA).mono ?_); rintro e wB ⟨rfl, hbB⟩))
  go_ret
  exact ⟨rfl, below_then HB.out (below_then hbA hbB)⟩
 | true =>
  cases d' with
  | false =>
   clear hcost hcost'
   unfold RN.val at HF HF' ⊢
   unfold boxC at hW0
   go_enter Tryz.func4, Tryz.ntmps4
   go_wp2_with (first | (go_at_call 12; have hz := hbC; go_must (refine (HW.out _ (below_then hbA hz)).mono ?_); rintro e wB ⟨rfl, hbB⟩) | (go_at_call 11; have hz := hbA; go_must (refine (HF'.out _ hz).mono ?_); rintro e wC ⟨rfl, hbC⟩) | (go_at_call 11; go_must (refine (HF.out _ (Below.refl _ _)).mono ?_); rintro e wA ⟨rfl, hbA⟩; clear e0 e1 e2 e3 e4 e5 f0 f1 f2 f3 f4 f5; obtain ⟨-, e0, e1, e2, e3, e4, e5, f0, f1, f2, f3, f4, f5⟩ := box_keep11 HX.out.1 HX.out.2 hbA))
   go_ret
   exact ⟨rfl, below_then HB.out (below_then (below_then hbA hbC) hbB)⟩
  | true =>
   have hc := hcost rfl
   have hc' := hcost' rfl
   have HS1 := Lib.hid (fun W (hb : Below W0.heap.size W0 W) => And.intro (aSame t u r s W (HM.out W hb).1 (HM.out W hb).2 hc) (rSame t u r s W (HM.out W hb).1 (HM.out W hb).2 hc))
   have HS2 := Lib.hid (fun W (hb : Below W0.heap.size W0 W) => (aSame u t s r W (HM.out W hb).2 (HM.out W hb).1 hc'))
   have hsym : sameV u t = sameV t u := by
    rw [Bool.eq_iff_iff]
    exact ⟨same_symm u t, same_symm t u⟩
   rw [hsym] at HS2
   generalize sameV t u = b1 at *
   clear hcost hcost' hc hc' hsym
   unfold RN.val at HF HF' HS1 HS2 ⊢
   unfold boxC at hW0
   have hHead : True := trivial
   cases b1
   · go_enter Tryz.func4, Tryz.ntmps4
     go_wp2_with (first | (go_at_call 11; have hz := hbA; go_must (refine (HF'.out _ hz).mono ?_); rintro e wC ⟨rfl, hbC⟩; have hbC' := below_then hbA hbC) | (go_at_call 11; go_must (refine (HF.out _ (Below.refl _ _)).mono ?_); rintro e wA ⟨rfl, hbA⟩; clear e0 e1 e2 e3 e4 e5 f0 f1 f2 f3 f4 f5; obtain ⟨-, e0, e1, e2, e3, e4, e5, f0, f1, f2, f3, f4, f5⟩ := box_keep11 HX.out.1 HX.out.2 hbA))
     have HKP := Lib.hid (fun W' (hBW : Below W0.heap.size W0 W') => (show zE W0 w.heap.size r (fun w' => w'.cell? ⟨w.heap.size + 1, 0, none⟩ = some (.int .i64 s.kind) ∧ w'.cell? ⟨w.heap.size + 1, 1, none⟩ = some (.int .i64 s.fr) ∧ w'.cell? ⟨w.heap.size + 1, 2, none⟩ = some (.int .i64 s.en) ∧ w'.cell? ⟨w.heap.size + 1, 3, none⟩ = some (.int .i64 s.at_) ∧ w'.cell? ⟨w.heap.size + 1, 4, none⟩ = some (.string s.name) ∧ w'.cell? ⟨w.heap.size + 1, 5, none⟩ = some (.slice s.A s.n s.cap)) W' from by exact box_keep11 HX.out.1 HX.out.2 hBW))
     refine zHD HKP fun hHeld => ?_
     refine zTk 0 (h := ?_)
     refine zTk 1 (h := ?_)
     refine zTk 3 (h := ?_)
     refine zTk 4 (h := ?_)
     refine zRd 2 (h := fun KK hKK => ?_)
     go_simp
     (refine (zb HS1).1.mono ?_; rintro e w1 ⟨rfl, hb1⟩)
     (try go_wp2_with fail)
     refine zKK hKK HKP fun hHeld2 => ?_; clear hKK KK hHeld; rename _ => hHeld
     refine zRd 5 (h := fun KK hKK => ?_)
     go_simp
     (refine (zb HS1).2.mono ?_; rintro e w2 ⟨rfl, hb2⟩)
     (try go_wp2_with fail)
     refine zKK hKK HKP fun hHeld2 => ?_; clear hKK KK hHeld; rename _ => hHeld
     refine zTk 6 (h := ?_)
     refine zTk 7 (h := ?_)
     refine zTk 8 (h := ?_)
     refine zTk 9 (h := ?_)
     refine zTk 11 (h := ?_)
     refine zTk 12 (h := ?_)
     refine zRd 10 (h := fun KK hKK => ?_)
     go_simp
     (refine (zb HS2).mono ?_; rintro e w3 ⟨rfl, hb3⟩)
     (try go_wp2_with fail)
     refine zKK hKK HKP fun hHeld2 => ?_; clear hKK KK hHeld; rename _ => hHeld
     refine zRd 13 (h := fun KK hKK => ?_)
     go_simp
     (refine (zb HS1).2.mono ?_; rintro e w4 ⟨rfl, hb4⟩)
     (try go_wp2_with fail)
     refine zKK hKK HKP fun hHeld2 => ?_; clear hKK KK hHeld; rename _ => hHeld
     refine zTk 14 (h := ?_)
     refine zTk 15 (h := ?_)
     refine zTk 16 (h := ?_)
     refine zRd 17 (h := fun KK hKK => ?_)
     go_simp
     (refine (zb HW).mono ?_; rintro e w5 ⟨rfl, hb5⟩)
     (try go_wp2_with fail)
     refine zKK hKK HKP fun hHeld2 => ?_; clear hKK KK hHeld; rename _ => hHeld
     refine zTk 18 (h := ?_)
     refine zTk 19 (h := ?_)
     refine wpAnyH_done (by kernel_rfl) ?_ _
     have HE := below_then HB.out hHeld.1
     clear hHeld
     go_wp2_with fail
     go_ret
     exact ⟨rfl, HE⟩
   · go_enter Tryz.func4, Tryz.ntmps4
     go_wp2_with (first | (go_at_call 11; have hz := hbA; go_must (refine (HF'.out _ hz).mono ?_); rintro e wC ⟨rfl, hbC⟩; have hbC' := below_then hbA hbC) | (go_at_call 11; go_must (refine (HF.out _ (Below.refl _ _)).mono ?_); rintro e wA ⟨rfl, hbA⟩; clear e0 e1 e2 e3 e4 e5 f0 f1 f2 f3 f4 f5; obtain ⟨-, e0, e1, e2, e3, e4, e5, f0, f1, f2, f3, f4, f5⟩ := box_keep11 HX.out.1 HX.out.2 hbA))
     have HKP := Lib.hid (fun W' (hBW : Below W0.heap.size W0 W') => (show zE W0 w.heap.size r (fun w' => w'.cell? ⟨w.heap.size + 1, 0, none⟩ = some (.int .i64 s.kind) ∧ w'.cell? ⟨w.heap.size + 1, 1, none⟩ = some (.int .i64 s.fr) ∧ w'.cell? ⟨w.heap.size + 1, 2, none⟩ = some (.int .i64 s.en) ∧ w'.cell? ⟨w.heap.size + 1, 3, none⟩ = some (.int .i64 s.at_) ∧ w'.cell? ⟨w.heap.size + 1, 4, none⟩ = some (.string s.name) ∧ w'.cell? ⟨w.heap.size + 1, 5, none⟩ = some (.slice s.A s.n s.cap)) W' from by exact box_keep11 HX.out.1 HX.out.2 hBW))
     refine zHD HKP fun hHeld => ?_
     refine zTk 0 (h := ?_)
     refine zTk 1 (h := ?_)
     refine zTk 3 (h := ?_)
     refine zTk 4 (h := ?_)
     refine zRd 2 (h := fun KK hKK => ?_)
     go_simp
     (refine (zb HS1).1.mono ?_; rintro e w1 ⟨rfl, hb1⟩)
     (try go_wp2_with fail)
     refine zKK hKK HKP fun hHeld2 => ?_; clear hKK KK hHeld; rename _ => hHeld
     refine zRd 5 (h := fun KK hKK => ?_)
     go_simp
     (refine (zb HS1).2.mono ?_; rintro e w2 ⟨rfl, hb2⟩)
     (try go_wp2_with fail)
     refine zKK hKK HKP fun hHeld2 => ?_; clear hKK KK hHeld; rename _ => hHeld
     refine zTk 6 (h := ?_)
     refine zTk 7 (h := ?_)
     refine zTk 8 (h := ?_)
     refine zTk 9 (h := ?_)
     refine zTk 11 (h := ?_)
     refine zTk 12 (h := ?_)
     refine zRd 10 (h := fun KK hKK => ?_)
     go_simp
     (refine (zb HS2).mono ?_; rintro e w3 ⟨rfl, hb3⟩)
     (try go_wp2_with fail)
     refine zKK hKK HKP fun hHeld2 => ?_; clear hKK KK hHeld; rename _ => hHeld
     refine zRd 13 (h := fun KK hKK => ?_)
     go_simp
     (refine (zb HS1).2.mono ?_; rintro e w4 ⟨rfl, hb4⟩)
     (try go_wp2_with fail)
     refine zKK hKK HKP fun hHeld2 => ?_; clear hKK KK hHeld; rename _ => hHeld
     refine zTk 14 (h := ?_)
     refine zTk 15 (h := ?_)
     refine zTk 16 (h := ?_)
     refine zRd 17 (h := fun KK hKK => ?_)
     go_simp
     (refine (zb HW).mono ?_; rintro e w5 ⟨rfl, hb5⟩)
     (try go_wp2_with fail)
     refine zKK hKK HKP fun hHeld2 => ?_; clear hKK KK hHeld; rename _ => hHeld
     refine zTk 18 (h := ?_)
     refine zTk 19 (h := ?_)
     refine wpAnyH_done (by kernel_rfl) ?_ _
     have HE := below_then HB.out hHeld.1
     clear hHeld
     go_wp2_with fail
     go_ret
     exact ⟨rfl, HE⟩
end Go.Proofs.YtacdfjlncfidgaaGreatDoor
