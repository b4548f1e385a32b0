/- A part of what the claim leans on. -/
import Derived.Test.YtacdfjlncfidgaaGreatDoorTI
namespace Go.Proofs.YtacdfjlncfidgaaGreatDoor
open Go.RowKit
set_option linter.unusedVariables false
set_option linter.unusedSimpArgs false
set_option maxRecDepth 100000
set_option maxHeartbeats 6400000
theorem eKey (x : Tree) : EOk x ∧ KeyOk x := by
 refine tree_ind (P := fun x => EOk x ∧ KeyOk x) (fun k f t a n l h => ?_) x
 exact ⟨okE _ (fun y hy => (h y hy).1) (fun y hy => (h y hy).2), okKeyed _ (fun y hy => (h y hy).1)⟩
theorem eAll (x : Tree) : EOk x := (eKey x).1
theorem pathAll (x : Tree) : FnP 118 (RR 16) x := tree_ind (P := fun x => FnP 118 (RR 16) x) (fun k f t a n l h => okPath _ h) x
theorem calledAll (x : Tree) : HOk 138 dCalled x := okCalled x (eAll x)
theorem defineAll (x : Tree) : HOk 116 dDef x := okDefine x (fun y _ => eAll y)
theorem stepAll (x : Tree) : HOk 117 dStep x := okStep x (fun y _ => ⟨eAll y, pathAll y, calledAll y⟩)
theorem OneV.later {w w' : World} {v : Value} {A : Option Addr} {n c : Nat} (h : OneV w v A n c) (hb : Below w.heap.size w w') : OneV w' v A n c := by
 obtain ⟨bx, e, h⟩ := h
 exact ⟨bx, e, nb_below h hb⟩
theorem PairOk.one {W : World} {l : List Tree} : ∀ {vs : List Value} {Ps : List (Tree → Bool)}, PairOk W l vs Ps → ∀ y ∈ l, PairOk W [y] vs Ps
 | [], [], _, _, _ => trivial
 | _ :: _, _ :: _, h, y, hy => ⟨fun z hz => by rw [List.mem_singleton.1 hz]; exact h.1 y hy, PairOk.one h.2 y hy⟩
theorem oneSort {w1 W : World} {lb : Array Value} {g c : Nat} {vs : List Value} {Ps : List (Tree → Bool)} {l : List Tree} (hone : OneV w1 (.func (.func 79) #[] lb) (some ⟨g, 0, none⟩) vs.length c) (hb : Below w1.heap.size w1 W) (hn : vs.length ≤ 1000) (hrow : W.heap[g]? = some (.cells vs.toArray 64 (0, 0))) (hp : PairOk W l vs Ps) : ∀ y ∈ l, SortT (.func (.func 79) #[] lb) (anyP Ps) W y :=
 fun y hy => aOneV (hone.later hb) hn (OneAt.lit hrow (hp.one y hy))
theorem anyR_anyP (ds : List Nat) : anyR nameV tokT ds = anyP (ds.map fun d => RR d) := by
 funext t
 unfold anyR anyP RR
 rw [List.any_map]
 rfl
theorem okBlock (x : Tree) (hk : ∀ y ∈ x.kids, FnP 87 (RR 11) y) : FnP 72 (RR 10) x := by
 intro r w hG hm hc
 have hG0 := hG.alloc (boxC r)
 have hm0 := hm.boxed (Nat.le_refl _) (boxC r)
 have HX := Lib.hid (heap_alloc_new w (boxC r))
 have HB := Lib.hid ((Below.refl w.heap.size w).alloc (Nat.le_refl _) (boxC r))
 obtain ⟨W0, hW0⟩ : ∃ W0, w.alloc (boxC r) = W0 := ⟨_, rfl⟩
 rw [hW0] at hG0 hm0 HX HB
 have HA := Lib.hid (fun W (hb : Below W0.heap.size W0 W) => aAll x r W (hm0.after (Nat.le_refl _) hb) 87 #[] hc)
 have HP := Lib.hid (fun W (hb : Below W0.heap.size W0 W) g (hg : W.heap[g]? = some (.cells (List.replicate x.kids.length (.func (.func 87) #[] #[])).toArray 64 (0, 0))) => aPlain x r W (hm0.after (Nat.le_refl _) hb) 10 (some ⟨g, 0, none⟩) x.kids.length x.kids.length (List.replicate x.kids.length (RR 11))
  (SortsAt.rep hg (fun y hy => (hk y hy).sort (fun args w => by rfl) (hG0.below hb) (kid_costT hc hy))) hc)
 have e : (x.name.isEmpty && decide (x.kind = 10) && allP (List.replicate x.kids.length (RR 11)) x.kids) = RR 10 x := by
  obtain ⟨k, f, e, a, n, l⟩ := x
  show (n.isEmpty && decide (k = 10) && allP (List.replicate l.length (RR 11)) l) = isR nameV tokT (.mk k f e a n l) 10
  rw [isR_10, allP_rep]
 rw [e] at HP
 generalize RR 10 x = B at *
 clear hG hm hc e hG0 hm0 hk
 unfold RN.val at HA HP ⊢
 go_enter Tryz.func72, Tryz.ntmps72
 go_wp2_with fail
 rw [show w.alloc (.cells #[.int .i64 r.kind, .int .i64 r.fr, .int .i64 r.en, .int .i64 r.at_, .string r.name, .slice r.A r.n r.cap] 24) = W0 from hW0]
 have HKP := Lib.hid (fun W' (hBW : Below W0.heap.size W0 W') => (show zS W0 w.heap.size r W' from by exact box_keep HX.out hBW))
 refine zHD HKP fun hHeld => ?_
 refine zTk 0 (h := ?_)
 refine zTk 1 (h := ?_)
 refine zRd 2 (h := fun KK hKK => ?_)
 go_simp
 (refine (zb HA).mono ?_; rintro e wA ⟨⟨g, rfl, hg, hrow⟩, hbA⟩)
 (try go_wp2_with fail)
 refine zKK hKK HKP fun hHeld2 => ?_; clear hKK KK hHeld; rename _ => hHeld
 refine zRd 3 (h := fun KK hKK => ?_)
 go_simp
 (refine ((zb HP) _ (by assumption)).mono ?_; rintro e wB ⟨rfl, hbB⟩)
 (try go_wp2_with fail)
 refine zKK hKK HKP fun hHeld2 => ?_; clear hKK KK hHeld; rename _ => hHeld
 refine zTk 4 (h := ?_)
 refine wpAnyH_done (by kernel_rfl) ?_ _
 have HE := below_then HB.out hHeld.1
 clear hHeld
 go_wp2_with fail
 go_ret
 exact ⟨ret_bool (by simp [*]), HE⟩
theorem okBranch (x : Tree) (hk : ∀ y ∈ x.kids, FnP 72 (RR 10) y ∧ FnP 97 (RR 12) y) : FnP 97 (RR 12) x := by
 intro r w hG hm hc
 have hG0 := hG.alloc (boxC r)
 have hm0 := hm.boxed (Nat.le_refl _) (boxC r)
 have HX := Lib.hid (heap_alloc_new w (boxC r))
 have HB := Lib.hid ((Below.refl w.heap.size w).alloc (Nat.le_refl _) (boxC r))
 obtain ⟨W0, hW0⟩ : ∃ W0, w.alloc (boxC r) = W0 := ⟨_, rfl⟩
 rw [hW0] at hG0 hm0 HX HB
 have HP := Lib.hid (fun W (hb : Below W0.heap.size W0 W) k A n c Ps (hS : SortsAt W A n Ps x.kids) => aPlain x r W (hm0.after (Nat.le_refl _) hb) k A n c Ps hS hc)
 have HQ := Lib.hid (fun W (hb : Below W0.heap.size W0 W) k A n c Ps (hS : SortsAt W A n Ps x.kids) => aNamed x r W (hm0.after (Nat.le_refl _) hb) k A n c Ps hS hc)
 have HEv := Lib.hid (fun (w W : World) (lb : Array Value) (cc : Nat) (head : Bool) (hE : EV w lb (cc : Int) head) (h1 : 1 ≤ cc) (h7 : cc ≤ 7) (hb : Below w.heap.size w W) (hb0 : Below W0.heap.size W0 W) y (hy : y ∈ x.kids) => hE.sort hb cc rfl h1 h7 (hG0.below hb0) (eAll y) (kid_costT hc hy))
 have HO := Lib.hid (fun (w1 W : World) (lb : Array Value) (g : Nat) (vs : List Value) (Ps : List (Tree → Bool)) (c : Nat) (hone : OneV w1 (.func (.func 79) #[] lb) (some ⟨g, 0, none⟩) vs.length c) (hb : Below w1.heap.size w1 W) (hn : vs.length ≤ 1000) (hrow : W.heap[g]? = some (.cells vs.toArray 64 (0, 0))) (hp : PairOk W x.kids vs Ps) => oneSort hone hb hn hrow hp)
 have H0 := Lib.hid (fun W (hb : Below W0.heap.size W0 W) y (hy : y ∈ x.kids) => FnP.sort (f := 69) (P := RR 0) (w := W) (okNothing y) (fun args w => by rfl) (hG0.below hb) (kid_costT hc hy))
 have H72 := Lib.hid (fun W (hb : Below W0.heap.size W0 W) y (hy : y ∈ x.kids) => FnP.sort (f := 72) (P := RR 10) (w := W) ((hk y hy).1) (fun args w => by rfl) (hG0.below hb) (kid_costT hc hy))
 have H97 := Lib.hid (fun W (hb : Below W0.heap.size W0 W) y (hy : y ∈ x.kids) => FnP.sort (f := 97) (P := RR 12) (w := W) ((hk y hy).2) (fun args w => by rfl) (hG0.below hb) (kid_costT hc hy))
 have hv : (x.name.isEmpty && decide (x.kind = 14) && allP [RR (eC 1 true), RR 10, anyP [RR 0, RR 12, RR 10]] x.kids) = RR 12 x := by
  obtain ⟨k, f, e, a, n, l⟩ := x
  show _ = isR nameV tokT (.mk k f e a n l) 12
  rw [isR_12, anyR_anyP]
  rfl
 generalize hB : RR 12 x = B at *
 clear hG hm hc hG0 hm0 hk
 unfold RN.val at HP ⊢
 go_enter Tryz.func97, Tryz.ntmps97
 go_wp2_with fail
 rw [show w.alloc (.cells #[.int .i64 r.kind, .int .i64 r.fr, .int .i64 r.en, .int .i64 r.at_, .string r.name, .slice r.A r.n r.cap] 24) = W0 from hW0]
 have HKP := Lib.hid (fun W' (hBW : Below W0.heap.size W0 W') => (show zS W0 w.heap.size r W' from by exact box_keep HX.out hBW))
 refine zHD HKP fun hHeld => ?_
 refine zTk 0 (h := ?_)
 refine wpAnyH_ready (rs := [1, 2]) (by kernel_rfl) (by simp) ?_
 refine AllReadyH.cons (by rfl) (fun KK hKK => ?_) (AllReadyH.cons (by rfl) (fun KK hKK => ?_) AllReadyH.nil)
 · go_simp
   (refine (aE _ _ _).mono ?_; rintro e wA ⟨⟨lbA, rfl, hA⟩, hbA⟩)
   (try go_wp2_with fail)
   refine zKK hKK HKP fun hHeld2 => ?_; clear hKK KK hHeld; rename _ => hHeld
   refine zRd 2 (h := fun KK hKK => ?_)
   go_simp
   refine zKK hKK HKP fun hHeld2 => ?_; clear hKK KK hHeld; rename _ => hHeld
   refine zRd 3 (h := fun KK hKK => ?_)
   go_simp
   (refine (aOne _ _ _ _).mono ?_; rintro e wB ⟨⟨lbB, rfl, hB1⟩, hbB⟩)
   (try go_wp2_with fail)
   refine zKK hKK HKP fun hHeld2 => ?_; clear hKK KK hHeld; rename _ => hHeld
   refine zRd 4 (h := fun KK hKK => ?_)
   go_simp
   refine zKK hKK HKP fun hHeld2 => ?_; clear hKK KK hHeld; rename _ => hHeld
   refine zRd 5 (h := fun KK hKK => ?_)
   go_simp
   (refine ((zb HP) _ _ _ _ [RR (eC 1 true), RR 10, anyP [RR 0, RR 12, RR 10]] (SortsAt.lit (vs := [_, _, _]) (new_at (by simp)) ⟨HEv.out _ _ _ 1 true hA (by omega) (by omega) (by repeat (first | exact zR _ | assumption | apply zA | apply zD | refine zT ?_ (by assumption))) (by repeat (first | exact zR _ | assumption | apply zA | apply zD | refine zT ?_ (by assumption))), (zb H72), HO.out _ _ _ _ [_, _, _] [RR 0, RR 12, RR 10] _ hB1 (by repeat (first | exact zR _ | assumption | apply zA | apply zD | refine zT ?_ (by assumption))) (by simp) (by repeat (first | assumption | exact new_at (by simp) | apply nb_alloc | (refine nb_below ?_ (by assumption)))) ⟨(zb H0), (zb H97), (zb H72), trivial⟩, trivial⟩)).mono ?_; rintro e wC ⟨he, hbC⟩; rw [hv] at he; subst he)
   (try go_wp2_with fail)
   refine zKK hKK HKP fun hHeld2 => ?_; clear hKK KK hHeld; rename _ => hHeld
   refine zTk 6 (h := ?_)
   refine wpAnyH_done (by kernel_rfl) ?_ _
   have HE := below_then HB.out hHeld.1
   clear hHeld
   go_wp2_with fail
   go_ret
   exact ⟨ret_bool (by simp [*]), HE⟩
 · go_simp
   refine zKK hKK HKP fun hHeld2 => ?_; clear hKK KK hHeld; rename _ => hHeld
   refine zRd 1 (h := fun KK hKK => ?_)
   go_simp
   (refine (aE _ _ _).mono ?_; rintro e wA ⟨⟨lbA, rfl, hA⟩, hbA⟩)
   (try go_wp2_with fail)
   refine zKK hKK HKP fun hHeld2 => ?_; clear hKK KK hHeld; rename _ => hHeld
   refine zRd 3 (h := fun KK hKK => ?_)
   go_simp
   (refine (aOne _ _ _ _).mono ?_; rintro e wB ⟨⟨lbB, rfl, hB1⟩, hbB⟩)
   (try go_wp2_with fail)
   refine zKK hKK HKP fun hHeld2 => ?_; clear hKK KK hHeld; rename _ => hHeld
   refine zRd 4 (h := fun KK hKK => ?_)
   go_simp
   refine zKK hKK HKP fun hHeld2 => ?_; clear hKK KK hHeld; rename _ => hHeld
   refine zRd 5 (h := fun KK hKK => ?_)
   go_simp
   (refine ((zb HP) _ _ _ _ [RR (eC 1 true), RR 10, anyP [RR 0, RR 12, RR 10]] (SortsAt.lit (vs := [_, _, _]) (new_at (by simp)) ⟨HEv.out _ _ _ 1 true hA (by omega) (by omega) (by repeat (first | exact zR _ | assumption | apply zA | apply zD | refine zT ?_ (by assumption))) (by repeat (first | exact zR _ | assumption | apply zA | apply zD | refine zT ?_ (by assumption))), (zb H72), HO.out _ _ _ _ [_, _, _] [RR 0, RR 12, RR 10] _ hB1 (by repeat (first | exact zR _ | assumption | apply zA | apply zD | refine zT ?_ (by assumption))) (by simp) (by repeat (first | assumption | exact new_at (by simp) | apply nb_alloc | (refine nb_below ?_ (by assumption)))) ⟨(zb H0), (zb H97), (zb H72), trivial⟩, trivial⟩)).mono ?_; rintro e wC ⟨he, hbC⟩; rw [hv] at he; subst he)
   (try go_wp2_with fail)
   refine zKK hKK HKP fun hHeld2 => ?_; clear hKK KK hHeld; rename _ => hHeld
   refine zTk 6 (h := ?_)
   refine wpAnyH_done (by kernel_rfl) ?_ _
   have HE := below_then HB.out hHeld.1
   clear hHeld
   go_wp2_with fail
   go_ret
   exact ⟨ret_bool (by simp [*]), HE⟩
theorem okLoop (x : Tree) (hk : ∀ y ∈ x.kids, FnP 72 (RR 10) y) : FnP 98 (RR 13) x := by
 intro r w hG hm hc
 have hG0 := hG.alloc (boxC r)
 have hm0 := hm.boxed (Nat.le_refl _) (boxC r)
 have HX := Lib.hid (heap_alloc_new w (boxC r))
 have HB := Lib.hid ((Below.refl w.heap.size w).alloc (Nat.le_refl _) (boxC r))
 obtain ⟨W0, hW0⟩ : ∃ W0, w.alloc (boxC r) = W0 := ⟨_, rfl⟩
 rw [hW0] at hG0 hm0 HX HB
 have HP := Lib.hid (fun W (hb : Below W0.heap.size W0 W) k A n c Ps (hS : SortsAt W A n Ps x.kids) => aPlain x r W (hm0.after (Nat.le_refl _) hb) k A n c Ps hS hc)
 have HQ := Lib.hid (fun W (hb : Below W0.heap.size W0 W) k A n c Ps (hS : SortsAt W A n Ps x.kids) => aNamed x r W (hm0.after (Nat.le_refl _) hb) k A n c Ps hS hc)
 have HEv := Lib.hid (fun (w W : World) (lb : Array Value) (cc : Nat) (head : Bool) (hE : EV w lb (cc : Int) head) (h1 : 1 ≤ cc) (h7 : cc ≤ 7) (hb : Below w.heap.size w W) (hb0 : Below W0.heap.size W0 W) y (hy : y ∈ x.kids) => hE.sort hb cc rfl h1 h7 (hG0.below hb0) (eAll y) (kid_costT hc hy))
 have HO := Lib.hid (fun (w1 W : World) (lb : Array Value) (g : Nat) (vs : List Value) (Ps : List (Tree → Bool)) (c : Nat) (hone : OneV w1 (.func (.func 79) #[] lb) (some ⟨g, 0, none⟩) vs.length c) (hb : Below w1.heap.size w1 W) (hn : vs.length ≤ 1000) (hrow : W.heap[g]? = some (.cells vs.toArray 64 (0, 0))) (hp : PairOk W x.kids vs Ps) => oneSort hone hb hn hrow hp)
 have HD := Lib.hid (fun (w W : World) (lb : Array Value) (head : Bool) (hE : HV w lb head) (hb : Below w.heap.size w W) (hb0 : Below W0.heap.size W0 W) y (hy : y ∈ x.kids) => hE.sort (f := 116) (fun args w => by rfl) hb (hG0.below hb0) (defineAll y) (kid_costT hc hy))
 have HT := Lib.hid (fun (w W : World) (lb : Array Value) (head : Bool) (hE : HV w lb head) (hb : Below w.heap.size w W) (hb0 : Below W0.heap.size W0 W) y (hy : y ∈ x.kids) => hE.sort (f := 117) (fun args w => by rfl) hb (hG0.below hb0) (stepAll y) (kid_costT hc hy))
 have H0 := Lib.hid (fun W (hb : Below W0.heap.size W0 W) y (hy : y ∈ x.kids) => FnP.sort (f := 69) (P := RR 0) (w := W) (okNothing y) (fun args w => by rfl) (hG0.below hb) (kid_costT hc hy))
 have H72 := Lib.hid (fun W (hb : Below W0.heap.size W0 W) y (hy : y ∈ x.kids) => FnP.sort (f := 72) (P := RR 10) (w := W) ((hk y hy)) (fun args w => by rfl) (hG0.below hb) (kid_costT hc hy))
 have hv : (x.name.isEmpty && decide (x.kind = 15) && allP [anyP [RR (dDef true), RR (dStep true), RR 0], anyP [RR (eC 1 true), RR 0], anyP [RR (dStep true), RR 0], RR 10] x.kids) = RR 13 x := by
  obtain ⟨k, f, e, a, n, l⟩ := x
  show _ = isR nameV tokT (.mk k f e a n l) 13
  rw [isR_13, anyR_anyP, anyR_anyP, anyR_anyP]
  rfl
 generalize hB : RR 13 x = B at *
 clear hG hm hc hG0 hm0 hk
 unfold RN.val at HP ⊢
 go_enter Tryz.func98, Tryz.ntmps98
 go_wp2_with fail
 rw [show w.alloc (.cells #[.int .i64 r.kind, .int .i64 r.fr, .int .i64 r.en, .int .i64 r.at_, .string r.name, .slice r.A r.n r.cap] 24) = W0 from hW0]
 have HKP := Lib.hid (fun W' (hBW : Below W0.heap.size W0 W') => (show zS W0 w.heap.size r W' from by exact box_keep HX.out hBW))
 refine zHD HKP fun hHeld => ?_
 refine zTk 0 (h := ?_)
 refine zRd 1 (h := fun KK hKK => ?_)
 go_simp
 (refine (aDefine _ _).mono ?_; rintro e wA ⟨⟨lbA, rfl, hA⟩, hbA⟩)
 (try go_wp2_with fail)
 refine zKK hKK HKP fun hHeld2 => ?_; clear hKK KK hHeld; rename _ => hHeld
 refine zRd 2 (h := fun KK hKK => ?_)
 go_simp
 (refine (aStep _ _).mono ?_; rintro e wB ⟨⟨lbB, rfl, hB1⟩, hbB⟩)
 (try go_wp2_with fail)
 refine zKK hKK HKP fun hHeld2 => ?_; clear hKK KK hHeld; rename _ => hHeld
 refine zRd 3 (h := fun KK hKK => ?_)
 go_simp
 refine zKK hKK HKP fun hHeld2 => ?_; clear hKK KK hHeld; rename _ => hHeld
 refine zRd 4 (h := fun KK hKK => ?_)
 go_simp
 (refine (aOne _ _ _ _).mono ?_; rintro e wC ⟨⟨lbC, rfl, hC⟩, hbC⟩)
 (try go_wp2_with fail)
 refine zKK hKK HKP fun hHeld2 => ?_; clear hKK KK hHeld; rename _ => hHeld
 refine zRd 5 (h := fun KK hKK => ?_)
 go_simp
 (refine (aE _ _ _).mono ?_; rintro e wD ⟨⟨lbD, rfl, hD⟩, hbD⟩)
 (try go_wp2_with fail)
 refine zKK hKK HKP fun hHeld2 => ?_; clear hKK KK hHeld; rename _ => hHeld
 refine zRd 6 (h := fun KK hKK => ?_)
 go_simp
 refine zKK hKK HKP fun hHeld2 => ?_; clear hKK KK hHeld; rename _ => hHeld
 refine zRd 7 (h := fun KK hKK => ?_)
 go_simp
 (refine (aOne _ _ _ _).mono ?_; rintro e wE ⟨⟨lbE, rfl, hE⟩, hbE⟩)
 (try go_wp2_with fail)
 refine zKK hKK HKP fun hHeld2 => ?_; clear hKK KK hHeld; rename _ => hHeld
 refine zRd 8 (h := fun KK hKK => ?_)
 go_simp
 (refine (aStep _ _).mono ?_; rintro e wF ⟨⟨lbF, rfl, hF⟩, hbF⟩)
 (try go_wp2_with fail)
 refine zKK hKK HKP fun hHeld2 => ?_; clear hKK KK hHeld; rename _ => hHeld
 refine zRd 9 (h := fun KK hKK => ?_)
 go_simp
 refine zKK hKK HKP fun hHeld2 => ?_; clear hKK KK hHeld; rename _ => hHeld
 refine zRd 10 (h := fun KK hKK => ?_)
 go_simp
 (refine (aOne _ _ _ _).mono ?_; rintro e wH ⟨⟨lbH, rfl, hH⟩, hbH⟩)
 (try go_wp2_with fail)
 refine zKK hKK HKP fun hHeld2 => ?_; clear hKK KK hHeld; rename _ => hHeld
 refine zRd 11 (h := fun KK hKK => ?_)
 go_simp
 refine zKK hKK HKP fun hHeld2 => ?_; clear hKK KK hHeld; rename _ => hHeld
 refine zRd 12 (h := fun KK hKK => ?_)
 go_simp
 (refine ((zb HP) _ _ _ _ [anyP [RR (dDef true), RR (dStep true), RR 0], anyP [RR (eC 1 true), RR 0], anyP [RR (dStep true), RR 0], RR 10] (SortsAt.lit (vs := [_, _, _, _]) (new_at (by simp)) ⟨HO.out _ _ _ _ [_, _, _] [RR (dDef true), RR (dStep true), RR 0] _ hC (by repeat (first | exact zR _ | assumption | apply zA | apply zD | refine zT ?_ (by assumption))) (by simp) (by repeat (first | assumption | exact new_at (by simp) | apply nb_alloc | (refine nb_below ?_ (by assumption)))) ⟨HD.out _ _ _ true hA (by repeat (first | exact zR _ | assumption | apply zA | apply zD | refine zT ?_ (by assumption))) (by repeat (first | exact zR _ | assumption | apply zA | apply zD | refine zT ?_ (by assumption))), HT.out _ _ _ true hB1 (by repeat (first | exact zR _ | assumption | apply zA | apply zD | refine zT ?_ (by assumption))) (by repeat (first | exact zR _ | assumption | apply zA | apply zD | refine zT ?_ (by assumption))), (zb H0), trivial⟩, HO.out _ _ _ _ [_, _] [RR (eC 1 true), RR 0] _ hE (by repeat (first | exact zR _ | assumption | apply zA | apply zD | refine zT ?_ (by assumption))) (by simp) (by repeat (first | assumption | exact new_at (by simp) | apply nb_alloc | (refine nb_below ?_ (by assumption)))) ⟨HEv.out _ _ _ 1 true hD (by omega) (by omega) (by repeat (first | exact zR _ | assumption | apply zA | apply zD | refine zT ?_ (by assumption))) (by repeat (first | exact zR _ | assumption | apply zA | apply zD | refine zT ?_ (by assumption))), (zb H0), trivial⟩, HO.out _ _ _ _ [_, _] [RR (dStep true), RR 0] _ hH (by repeat (first | exact zR _ | assumption | apply zA | apply zD | refine zT ?_ (by assumption))) (by simp) (by repeat (first | assumption | exact new_at (by simp) | apply nb_alloc | (refine nb_below ?_ (by assumption)))) ⟨HT.out _ _ _ true hF (by repeat (first | exact zR _ | assumption | apply zA | apply zD | refine zT ?_ (by assumption))) (by repeat (first | exact zR _ | assumption | apply zA | apply zD | refine zT ?_ (by assumption))), (zb H0), trivial⟩, (zb H72), trivial⟩)).mono ?_; rintro e wI ⟨he, hbI⟩; rw [hv] at he; subst he)
 (try go_wp2_with fail)
 refine zKK hKK HKP fun hHeld2 => ?_; clear hKK KK hHeld; rename _ => hHeld
 refine zTk 13 (h := ?_)
 refine wpAnyH_done (by kernel_rfl) ?_ _
 have HE := below_then HB.out hHeld.1
 clear hHeld
 go_wp2_with fail
 go_ret
 exact ⟨ret_bool (by simp [*]), HE⟩
section
variable (nm : BL → Bool) (tok : BL → Int → Bool) (k f t a : Int) (n : BL) (l : List Tree)
theorem st_11 : isR nm tok (.mk 11 f t a n l) 11 = (nm n && allP [anyR nm tok [8, 0], anyR nm tok [101, 0]] l && varK l) := by
 rw [isR_eq, isRL_eq]
 simp [ownR, needOf, kindsR, nameR, rowR, Tree.kind, Tree.name, Tree.kids, any1]
 cases nm n <;> cases varK l <;> simp
theorem st_10 : isR nm tok (.mk 10 f t a n l) 11 = isR nm tok (.mk 10 f t a n l) 10 := by
 rw [isR_eq, isRL_eq, isR_eq, isRL_eq]
 simp [ownR, needOf, kindsR, nameR, rowR, Tree.kind, Tree.name, Tree.kids, any1]
theorem st_14 : isR nm tok (.mk 14 f t a n l) 11 = isR nm tok (.mk 14 f t a n l) 12 := by
 rw [isR_eq, isRL_eq, isR_eq, isRL_eq]
 simp [ownR, needOf, kindsR, nameR, rowR, Tree.kind, Tree.name, Tree.kids, any1]
theorem st_15 : isR nm tok (.mk 15 f t a n l) 11 = isR nm tok (.mk 15 f t a n l) 13 := by
 rw [isR_eq, isRL_eq, isR_eq, isRL_eq]
 simp [ownR, needOf, kindsR, nameR, rowR, Tree.kind, Tree.name, Tree.kids, any1]
theorem st_16 : isR nm tok (.mk 16 f t a n l) 11 = (nm n && allP [fun t => isR nm tok t 13] l) := by
 rw [isR_eq, isRL_eq]
 simp [ownR, needOf, kindsR, nameR, rowR, Tree.kind, Tree.name, Tree.kids, any1]
theorem st_17 (h : k = 17 ∨ k = 18) : isR nm tok (.mk k f t a n l) 11 = ((nm n || n.isEmpty) && l.isEmpty) := by
 rw [isR_eq, isRL_eq]
 rcases h with rfl | rfl <;> simp [ownR, needOf, kindsR, nameR, rowR, Tree.kind, Tree.name, Tree.kids, any1, allP_nil, Bool.or_comm]
theorem st_19 : isR nm tok (.mk 19 f t a n l) 11 = (n.isEmpty && (l.isEmpty || allP [fun t => isR nm tok t 101] l)) := by
 rw [isR_eq, isRL_eq]
 cases l <;> simp [ownR, needOf, kindsR, nameR, rowR, Tree.kind, Tree.name, Tree.kids, any1, allP_nil]
theorem st_no (h11 : k ≠ 11) (h10 : k ≠ 10) (h14 : k ≠ 14) (h15 : k ≠ 15) (h16 : k ≠ 16) (h17 : k ≠ 17) (h18 : k ≠ 18) (h19 : k ≠ 19) : isR nm tok (.mk k f t a n l) 11 = (isR nm tok (.mk k f t a n l) 14 || isR nm tok (.mk k f t a n l) 15) := by
 by_cases h12 : k = 12
 · subst h12
   rw [isR_14, isR_15, isR_eq, isRL_eq]
   simp [ownR, needOf, kindsR, nameR, rowR, Tree.kind, Tree.name, Tree.kids, any1]
 by_cases h13 : k = 13
 · subst h13
   rw [isR_14, isR_15, isR_eq, isRL_eq]
   simp [ownR, needOf, kindsR, nameR, rowR, Tree.kind, Tree.name, Tree.kids, any1]
 by_cases h20 : k = 20
 · subst h20
   rw [isR_14, isR_15, isR_eq, isRL_eq]
   simp [ownR, needOf, kindsR, nameR, rowR, Tree.kind, Tree.name, Tree.kids, any1]
 rw [isR_14, isR_15, isR_eq, isRL_eq]
 simp [ownR, needOf, kindsR, Tree.kind, h10, h11, h12, h13, h14, h15, h16, h17, h18, h19, h20]
end
end Go.Proofs.YtacdfjlncfidgaaGreatDoor
