/- A part of what the claim leans on. -/
import Derived.Test.YtacdfjlncfidgaaGreatDoorTG
import Derived.Laws.EntriesVeiled
namespace Go.Proofs.YtacdfjlncfidgaaGreatDoor
open Go.RowKit
set_option linter.unusedVariables false
set_option linter.unusedSimpArgs false
set_option maxRecDepth 100000
set_option maxHeartbeats 3200000
theorem hasB_eq2 (a b n : BL) : hasB [a, b] n = (decide (n = a) || decide (n = b)) := by
 unfold hasB
 rw [Bool.eq_iff_iff, List.contains_iff_mem]
 simp
theorem okE24 (x : Tree) (hkd : x.kind = 24) : EOk x := by
 rintro k c head rfl h1c h7c w lb ⟨b0, b1, b2, b3, rfl, g0, g1, g2, g3⟩ hG r hm hc
 have HE0 := Lib.hid (And.intro (nb_alloc (o' := boxC r) g0) (And.intro (nb_alloc (o' := boxC r) g1) (And.intro (nb_alloc (o' := boxC r) g2) (nb_alloc (o' := boxC r) g3))))
 have hG0 := hG.alloc (boxC r)
 have hm0 := hm.boxed (Nat.le_refl _) (boxC r)
 have HX := Lib.hid (heap_alloc_new w (boxC r))
 have HB := Lib.hid ((Below.refl w.heap.size w).alloc (Nat.le_refl _) (boxC r))
 obtain ⟨W0, hW0⟩ : ∃ W0, w.alloc (boxC r) = W0 := ⟨_, rfl⟩
 rw [hW0] at hG0 hm0 HX HB HE0
 have hrk : r.kind = 24 := by rw [hm.kind]; exact hkd
 have hname : r.name.data.toList = x.name := by rw [hm.name, toBA_list]
 obtain ⟨-, e0, e1, e2, e3, e4, e5, f0, f1, f2, f3⟩ := box_keep4 HX.out HE0.out.1 HE0.out.2.1 HE0.out.2.2.1 HE0.out.2.2.2 (Below.refl _ _)
 have HS := Lib.hid (fun W (hb : Below W0.heap.size W0 W) A n cc Ps (hS : SortsAt W A n Ps x.kids) => aShaped x r W (hm0.after (Nat.le_refl _) hb) r.kind A n cc Ps hS hc)
 have HT := Lib.hid (aWords r.name ⟨#[116, 114, 117, 101, 32, 102, 97, 108, 115, 101]⟩ [trueB, falseB] 2 rfl (by decide +kernel) (by decide) (by decide +kernel) (by decide) W0 hG0)
 rw [hname] at HT
 have hv : RR (eC c head) x = (hasB [trueB, falseB] x.name && (decide (x.kind = r.kind) && allP [] x.kids)) := by
  rw [hrk]
  obtain ⟨k, f, e, a, n, l⟩ := x
  change k = 24 at hkd
  subst hkd
  show isR nameV tokT _ (eC c head) = (hasB [trueB, falseB] n && (decide ((24 : Int) = 24) && allP [] l))
  rw [isE nameV tokT _ _ _ _ _ _ c head h1c h7c, allP_nil, hasB_eq2]
  simp [eKind]
 generalize RR (eC c head) x = B at *
 generalize hasB [trueB, falseB] x.name = Bt at *
 generalize hbs : (decide (x.kind = r.kind) && allP [] x.kids) = Bs at *
 subst hv
 have q31 : (r.kind == 31) = false := by simp [hrk]
 have q30 : (r.kind == 30) = false := by simp [hrk]
 have q21 : (r.kind == 21) = false := by simp [hrk]
 have q22 : (r.kind == 22) = false := by simp [hrk]
 have q23 : (r.kind == 23) = false := by simp [hrk]
 have q24 : (r.kind == 24) = true := by simp [hrk]
 have q25 : (r.kind == 25) = false := by simp [hrk]
 have q33 : (r.kind == 33) = false := by simp [hrk]
 have q26 : (r.kind == 26) = false := by simp [hrk]
 have q32 : (r.kind == 32) = false := by simp [hrk]
 have q27 : (r.kind == 27) = false := by simp [hrk]
 have q28 : (r.kind == 28) = false := by simp [hrk]
 clear hkd hrk hG hm hc hG0 hm0 g0 g1 g2 g3 hname
 show Calls Tryz.prog 112 #[r.val, .pointer (some ⟨b0, 0, none⟩), .pointer (some ⟨b1, 0, none⟩), .pointer (some ⟨b2, 0, none⟩), .pointer (some ⟨b3, 0, none⟩)] w _
 unfold RN.val at HS ⊢
 cases Bt with
 | true =>
  go_enter Tryz.func112, Tryz.ntmps112
  go_wp2_with (first | (go_at_call 95; go_must (rw [show w.alloc (.cells #[.int .i64 r.kind, .int .i64 r.fr, .int .i64 r.en, .int .i64 r.at_, .string r.name, .slice r.A r.n r.cap] 24) = W0 from hW0]; refine HT.out.mono ?_); rintro e wA ⟨rfl, hbA⟩; clear e0 e1 e2 e3 e4 e5 f0 f1 f2 f3; obtain ⟨-, e0, e1, e2, e3, e4, e5, f0, f1, f2, f3⟩ := box_keep4 HX.out HE0.out.1 HE0.out.2.1 HE0.out.2.2.1 HE0.out.2.2.2 hbA) | (go_at_call 74; go_must (refine (HS.out _ hbA _ _ _ [] (.nil_ _ _ _)).mono ?_); rintro e wB ⟨rfl, hbB⟩))
  go_ret
  exact ⟨ret_bool (by simp [*]), below_then HB.out (by repeat (first | exact zR _ | assumption | apply zA | apply zD | refine zT ?_ (by assumption)))⟩
 | false =>
  go_enter Tryz.func112, Tryz.ntmps112
  go_wp2_with (first | (go_at_call 95; go_must (rw [show w.alloc (.cells #[.int .i64 r.kind, .int .i64 r.fr, .int .i64 r.en, .int .i64 r.at_, .string r.name, .slice r.A r.n r.cap] 24) = W0 from hW0]; refine HT.out.mono ?_); rintro e wA ⟨rfl, hbA⟩; clear e0 e1 e2 e3 e4 e5 f0 f1 f2 f3; obtain ⟨-, e0, e1, e2, e3, e4, e5, f0, f1, f2, f3⟩ := box_keep4 HX.out HE0.out.1 HE0.out.2.1 HE0.out.2.2.1 HE0.out.2.2.2 hbA) | (go_at_call 74; go_must (refine (HS.out _ hbA _ _ _ [] (.nil_ _ _ _)).mono ?_); rintro e wB ⟨rfl, hbB⟩))
  go_ret
  exact ⟨ret_bool (by simp [*]), below_then HB.out (by repeat (first | exact zR _ | assumption | apply zA | apply zD | refine zT ?_ (by assumption)))⟩
theorem okE25 (x : Tree) (hkd : x.kind = 25) : EOk x := by
 rintro k c head rfl h1c h7c w lb ⟨b0, b1, b2, b3, rfl, g0, g1, g2, g3⟩ hG r hm hc
 have HE0 := Lib.hid (And.intro (nb_alloc (o' := boxC r) g0) (And.intro (nb_alloc (o' := boxC r) g1) (And.intro (nb_alloc (o' := boxC r) g2) (nb_alloc (o' := boxC r) g3))))
 have hG0 := hG.alloc (boxC r)
 have hm0 := hm.boxed (Nat.le_refl _) (boxC r)
 have HX := Lib.hid (heap_alloc_new w (boxC r))
 have HB := Lib.hid ((Below.refl w.heap.size w).alloc (Nat.le_refl _) (boxC r))
 obtain ⟨W0, hW0⟩ : ∃ W0, w.alloc (boxC r) = W0 := ⟨_, rfl⟩
 rw [hW0] at hG0 hm0 HX HB HE0
 have hrk : r.kind = 25 := by rw [hm.kind]; exact hkd
 have hname : r.name.data.toList = x.name := by rw [hm.name, toBA_list]
 obtain ⟨-, e0, e1, e2, e3, e4, e5, f0, f1, f2, f3⟩ := box_keep4 HX.out HE0.out.1 HE0.out.2.1 HE0.out.2.2.1 HE0.out.2.2.2 (Below.refl _ _)
 have HT := Lib.hid (okIdent x r W0 hG0 hm0 hc)
 have hv : RR (eC c head) x = RR 17 x := by
  obtain ⟨k, f, e, a, n, l⟩ := x
  change k = 25 at hkd
  subst hkd
  show isR nameV tokT _ (eC c head) = isR nameV tokT _ 17
  rw [isE nameV tokT _ _ _ _ _ _ c head h1c h7c, isR_17]
  simp [eKind]
 rw [← hv] at HT
 generalize RR (eC c head) x = B at *
 have q31 : (r.kind == 31) = false := by simp [hrk]
 have q30 : (r.kind == 30) = false := by simp [hrk]
 have q21 : (r.kind == 21) = false := by simp [hrk]
 have q22 : (r.kind == 22) = false := by simp [hrk]
 have q23 : (r.kind == 23) = false := by simp [hrk]
 have q24 : (r.kind == 24) = false := by simp [hrk]
 have q25 : (r.kind == 25) = true := by simp [hrk]
 have q33 : (r.kind == 33) = false := by simp [hrk]
 have q26 : (r.kind == 26) = false := by simp [hrk]
 have q32 : (r.kind == 32) = false := by simp [hrk]
 have q27 : (r.kind == 27) = false := by simp [hrk]
 have q28 : (r.kind == 28) = false := by simp [hrk]
 clear hv hkd hrk hG hm hc hG0 hm0 g0 g1 g2 g3 hname
 show Calls Tryz.prog 112 #[r.val, .pointer (some ⟨b0, 0, none⟩), .pointer (some ⟨b1, 0, none⟩), .pointer (some ⟨b2, 0, none⟩), .pointer (some ⟨b3, 0, none⟩)] w _
 unfold RN.val at HT ⊢
 go_enter Tryz.func112, Tryz.ntmps112
 go_wp2_with (first | (go_at_call 94; go_must (rw [show w.alloc (.cells #[.int .i64 r.kind, .int .i64 r.fr, .int .i64 r.en, .int .i64 r.at_, .string r.name, .slice r.A r.n r.cap] 24) = W0 from hW0]; refine HT.out.mono ?_); rintro e wA ⟨rfl, hbA⟩))
 go_ret
 exact ⟨rfl, below_then HB.out hbA⟩
theorem okE33 (x : Tree) (hk : ∀ y ∈ x.kids, EOk y) (hkd : x.kind = 33) : EOk x := by
 rintro k c head rfl h1c h7c w lb ⟨b0, b1, b2, b3, rfl, g0, g1, g2, g3⟩ hG r hm hc
 have HE0 := Lib.hid (And.intro (nb_alloc (o' := boxC r) g0) (And.intro (nb_alloc (o' := boxC r) g1) (And.intro (nb_alloc (o' := boxC r) g2) (nb_alloc (o' := boxC r) g3))))
 have hG0 := hG.alloc (boxC r)
 have hm0 := hm.boxed (Nat.le_refl _) (boxC r)
 have HX := Lib.hid (heap_alloc_new w (boxC r))
 have HB := Lib.hid ((Below.refl w.heap.size w).alloc (Nat.le_refl _) (boxC r))
 obtain ⟨W0, hW0⟩ : ∃ W0, w.alloc (boxC r) = W0 := ⟨_, rfl⟩
 rw [hW0] at hG0 hm0 HX HB HE0
 have hrk : r.kind = 33 := by rw [hm.kind]; exact hkd
 have hname : r.name.data.toList = x.name := by rw [hm.name, toBA_list]
 obtain ⟨-, e0, e1, e2, e3, e4, e5, f0, f1, f2, f3⟩ := box_keep4 HX.out HE0.out.1 HE0.out.2.1 HE0.out.2.2.1 HE0.out.2.2.2 (Below.refl _ _)
 have hsz : W0.heap.size = w.heap.size + 1 := by rw [← hW0, World.size_alloc]
 have hrow := new_at (w := W0) (o := .cells #[.func (.func 110) #[] #[]] 64) hsz.symm
 have HT := Lib.hid (aPlain x r (W0.alloc (.cells #[.func (.func 110) #[] #[]] 64)) (hm0.boxed (Nat.le_refl _) _) 33 (some ⟨w.heap.size + 1, 0, none⟩) 1 1 [RR 101] (SortsAt.lit (vs := [.func (.func 110) #[] #[]]) hrow ⟨fun y hy => (okInner y (hk y hy)).sort (fun args w => by rfl) (hG0.alloc _) (kid_costT hc hy), trivial⟩) hc)
 have HB1 := Lib.hid (bel_alloc (o := .cells #[.func (.func 110) #[] #[]] 64) (Below.refl W0.heap.size W0))
 have hv : (x.name.isEmpty && decide (x.kind = 33) && allP [RR 101] x.kids) = RR (eC c head) x := by
  symm
  obtain ⟨k, f, e, a, n, l⟩ := x
  change k = 33 at hkd
  subst hkd
  show isR nameV tokT _ (eC c head) = (n.isEmpty && decide ((33 : Int) = 33) && allP [RR 101] l)
  rw [isE nameV tokT _ _ _ _ _ _ c head h1c h7c]
  simp [eKind]
 rw [hv] at HT
 generalize RR (eC c head) x = B at *
 have q31 : (r.kind == 31) = false := by simp [hrk]
 have q30 : (r.kind == 30) = false := by simp [hrk]
 have q21 : (r.kind == 21) = false := by simp [hrk]
 have q22 : (r.kind == 22) = false := by simp [hrk]
 have q23 : (r.kind == 23) = false := by simp [hrk]
 have q24 : (r.kind == 24) = false := by simp [hrk]
 have q25 : (r.kind == 25) = false := by simp [hrk]
 have q33 : (r.kind == 33) = true := by simp [hrk]
 have q26 : (r.kind == 26) = false := by simp [hrk]
 have q32 : (r.kind == 32) = false := by simp [hrk]
 have q27 : (r.kind == 27) = false := by simp [hrk]
 have q28 : (r.kind == 28) = false := by simp [hrk]
 obtain ⟨u0, _, v0⟩ := cell1 g0
 obtain ⟨u1, _, v1⟩ := cell1 g1
 obtain ⟨u2, _, v2⟩ := cell1 g2
 obtain ⟨u3, _, v3⟩ := cell1 g3
 clear hv hrow hsz hk hkd hrk hG hm hc hG0 hm0 g0 g1 g2 g3 hname
 show Calls Tryz.prog 112 #[r.val, .pointer (some ⟨b0, 0, none⟩), .pointer (some ⟨b1, 0, none⟩), .pointer (some ⟨b2, 0, none⟩), .pointer (some ⟨b3, 0, none⟩)] w _
 unfold RN.val at HT ⊢
 go_enter Tryz.func112, Tryz.ntmps112
 go_wp2_with (first | (go_at_call 83; go_must (rw [show w.alloc (.cells #[.int .i64 r.kind, .int .i64 r.fr, .int .i64 r.en, .int .i64 r.at_, .string r.name, .slice r.A r.n r.cap] 24) = W0 from hW0]; refine HT.out.mono ?_); rintro e wA ⟨rfl, hbA⟩))
 go_ret
 exact ⟨rfl, below_then HB.out (below_then HB1.out hbA)⟩
theorem okE26 (x : Tree) (hk : ∀ y ∈ x.kids, EOk y) (hkd : x.kind = 26) : EOk x := by
 rintro k c head rfl h1c h7c w lb ⟨b0, b1, b2, b3, rfl, g0, g1, g2, g3⟩ hG r hm hc
 have HE0 := Lib.hid (And.intro (nb_alloc (o' := boxC r) g0) (And.intro (nb_alloc (o' := boxC r) g1) (And.intro (nb_alloc (o' := boxC r) g2) (nb_alloc (o' := boxC r) g3))))
 have hG0 := hG.alloc (boxC r)
 have hm0 := hm.boxed (Nat.le_refl _) (boxC r)
 have HX := Lib.hid (heap_alloc_new w (boxC r))
 have HB := Lib.hid ((Below.refl w.heap.size w).alloc (Nat.le_refl _) (boxC r))
 obtain ⟨W0, hW0⟩ : ∃ W0, w.alloc (boxC r) = W0 := ⟨_, rfl⟩
 rw [hW0] at hG0 hm0 HX HB HE0
 have hrk : r.kind = 26 := by rw [hm.kind]; exact hkd
 have hname : r.name.data.toList = x.name := by rw [hm.name, toBA_list]
 obtain ⟨-, e0, e1, e2, e3, e4, e5, f0, f1, f2, f3⟩ := box_keep4 HX.out HE0.out.1 HE0.out.2.1 HE0.out.2.2.1 HE0.out.2.2.2 (Below.refl _ _)
 have hsz : W0.heap.size = w.heap.size + 1 := by rw [← hW0, World.size_alloc]
 have hrow := new_at (w := W0) (o := .cells #[.func (.func 111) #[] #[.pointer (some ⟨b1, 0, none⟩)]] 64) hsz.symm
 have HT := Lib.hid (aNamed x r (W0.alloc (.cells #[.func (.func 111) #[] #[.pointer (some ⟨b1, 0, none⟩)]] 64)) (hm0.boxed (Nat.le_refl _) _) 26 (some ⟨w.heap.size + 1, 0, none⟩) 1 1 [RR (eC 7 head)] (SortsAt.lit (vs := [.func (.func 111) #[] #[.pointer (some ⟨b1, 0, none⟩)]]) hrow ⟨fun y hy => okOperand (nb_alloc HE0.out.2.1) (hG0.alloc _) (hk y hy) (kid_costT hc hy), trivial⟩) hc)
 have HB1 := Lib.hid (bel_alloc (o := .cells #[.func (.func 111) #[] #[.pointer (some ⟨b1, 0, none⟩)]] 64) (Below.refl W0.heap.size W0))
 have hv : (nameV x.name && decide (x.kind = 26) && allP [RR (eC 7 head)] x.kids) = RR (eC c head) x := by
  symm
  obtain ⟨k, f, e, a, n, l⟩ := x
  change k = 26 at hkd
  subst hkd
  show isR nameV tokT _ (eC c head) = (nameV n && decide ((26 : Int) = 26) && allP [RR (eC 7 head)] l)
  rw [isE nameV tokT _ _ _ _ _ _ c head h1c h7c]
  simp [eKind]
 rw [hv] at HT
 generalize RR (eC c head) x = B at *
 have q31 : (r.kind == 31) = false := by simp [hrk]
 have q30 : (r.kind == 30) = false := by simp [hrk]
 have q21 : (r.kind == 21) = false := by simp [hrk]
 have q22 : (r.kind == 22) = false := by simp [hrk]
 have q23 : (r.kind == 23) = false := by simp [hrk]
 have q24 : (r.kind == 24) = false := by simp [hrk]
 have q25 : (r.kind == 25) = false := by simp [hrk]
 have q33 : (r.kind == 33) = false := by simp [hrk]
 have q26 : (r.kind == 26) = true := by simp [hrk]
 have q32 : (r.kind == 32) = false := by simp [hrk]
 have q27 : (r.kind == 27) = false := by simp [hrk]
 have q28 : (r.kind == 28) = false := by simp [hrk]
 obtain ⟨u0, _, v0⟩ := cell1 g0
 obtain ⟨u1, _, v1⟩ := cell1 g1
 obtain ⟨u2, _, v2⟩ := cell1 g2
 obtain ⟨u3, _, v3⟩ := cell1 g3
 clear hv hrow hsz hk hkd hrk hG hm hc hG0 hm0 g0 g1 g2 g3 hname
 show Calls Tryz.prog 112 #[r.val, .pointer (some ⟨b0, 0, none⟩), .pointer (some ⟨b1, 0, none⟩), .pointer (some ⟨b2, 0, none⟩), .pointer (some ⟨b3, 0, none⟩)] w _
 unfold RN.val at HT ⊢
 go_enter Tryz.func112, Tryz.ntmps112
 go_wp2_with (first | (go_at_call 58; go_must (rw [show w.alloc (.cells #[.int .i64 r.kind, .int .i64 r.fr, .int .i64 r.en, .int .i64 r.at_, .string r.name, .slice r.A r.n r.cap] 24) = W0 from hW0]; refine HT.out.mono ?_); rintro e wA ⟨rfl, hbA⟩))
 go_ret
 exact ⟨rfl, below_then HB.out (below_then HB1.out hbA)⟩
theorem okE30 (x : Tree) (hk : ∀ y ∈ x.kids, EOk y) (hkd : x.kind = 30) : EOk x := by
 rintro k c head rfl h1c h7c w lb ⟨b0, b1, b2, b3, rfl, g0, g1, g2, g3⟩ hG r hm hc
 have HE0 := Lib.hid (And.intro (nb_alloc (o' := boxC r) g0) (And.intro (nb_alloc (o' := boxC r) g1) (And.intro (nb_alloc (o' := boxC r) g2) (nb_alloc (o' := boxC r) g3))))
 have hG0 := hG.alloc (boxC r)
 have hm0 := hm.boxed (Nat.le_refl _) (boxC r)
 have HX := Lib.hid (heap_alloc_new w (boxC r))
 have HB := Lib.hid ((Below.refl w.heap.size w).alloc (Nat.le_refl _) (boxC r))
 obtain ⟨W0, hW0⟩ : ∃ W0, w.alloc (boxC r) = W0 := ⟨_, rfl⟩
 rw [hW0] at hG0 hm0 HX HB HE0
 have hrk : r.kind = 30 := by rw [hm.kind]; exact hkd
 have hname : r.name.data.toList = x.name := by rw [hm.name, toBA_list]
 obtain ⟨-, e0, e1, e2, e3, e4, e5, f0, f1, f2, f3⟩ := box_keep4 HX.out HE0.out.1 HE0.out.2.1 HE0.out.2.2.1 HE0.out.2.2.2 (Below.refl _ _)
 have HS := Lib.hid (fun W (hb : Below W0.heap.size W0 W) A n cc Ps (hS : SortsAt W A n Ps x.kids) => aShaped x r W (hm0.after (Nat.le_refl _) hb) 30 A n cc Ps hS hc)
 have HV := Lib.hid (fun (w W : World) (lb : Array Value) (kk : Int) (cc : Nat) (hE : EV w lb kk head) (hkk : kk = (cc : Int)) (h1 : 1 ≤ cc) (h7 : cc ≤ 7) (hb : Below w.heap.size w W) (hb0 : Below W0.heap.size W0 W) y (hy : y ∈ x.kids) => hE.sort hb cc hkk h1 h7 (hG0.below hb0) (hk y hy) (kid_costT hc hy))
 have HT := Lib.hid (fun W (hb : Below W0.heap.size W0 W) => aWords r.name ⟨#[45, 32, 33]⟩ [[45], [33]] 2 rfl (by decide +kernel) (by decide) (by decide +kernel) (by decide) W (hG0.below hb))
 rw [hname] at HT
 have hv : RR (eC c head) x = (decide (c ≤ 6) && hasB [[45], [33]] x.name && (decide (x.kind = 30) && allP [RR (eC 6 head)] x.kids)) := by
  obtain ⟨k, f, e, a, n, l⟩ := x
  change k = 30 at hkd
  subst hkd
  show isR nameV tokT _ (eC c head) = (decide (c ≤ 6) && hasB [[45], [33]] n && (decide ((30 : Int) = 30) && allP [RR (eC 6 head)] l))
  rw [isE nameV tokT _ _ _ _ _ _ c head h1c h7c, hasB_eq2]
  simp [eKind]
 generalize RR (eC c head) x = B at *
 generalize hasB [[45], [33]] x.name = Bt at *
 generalize hbs : (decide (x.kind = 30) && allP [RR (eC 6 head)] x.kids) = Bs at *
 subst hv
 have q31 : (r.kind == 31) = false := by simp [hrk]
 have q30 : (r.kind == 30) = true := by simp [hrk]
 have q21 : (r.kind == 21) = false := by simp [hrk]
 have q22 : (r.kind == 22) = false := by simp [hrk]
 have q23 : (r.kind == 23) = false := by simp [hrk]
 have q24 : (r.kind == 24) = false := by simp [hrk]
 have q25 : (r.kind == 25) = false := by simp [hrk]
 have q33 : (r.kind == 33) = false := by simp [hrk]
 have q26 : (r.kind == 26) = false := by simp [hrk]
 have q32 : (r.kind == 32) = false := by simp [hrk]
 have q27 : (r.kind == 27) = false := by simp [hrk]
 have q28 : (r.kind == 28) = false := by simp [hrk]
 clear hk hkd hrk hG hm hc hG0 hm0 g0 g1 g2 g3 hname
 show Calls Tryz.prog 112 #[r.val, .pointer (some ⟨b0, 0, none⟩), .pointer (some ⟨b1, 0, none⟩), .pointer (some ⟨b2, 0, none⟩), .pointer (some ⟨b3, 0, none⟩)] w _
 unfold RN.val at HS ⊢
 by_cases hc6 : c ≤ 6
 · have j1 : (c : Int) ≤ 6 := by omega
   have j2 : decide ((c : Int) ≤ 6) = true := decide_eq_true j1
   cases Bt with
   | true =>
    go_enter Tryz.func112, Tryz.ntmps112
    go_wp2_with fail
    rw [show w.alloc (.cells #[.int .i64 r.kind, .int .i64 r.fr, .int .i64 r.en, .int .i64 r.at_, .string r.name, .slice r.A r.n r.cap] 24) = W0 from hW0]
    have HKP := Lib.hid (fun W' (hBW : Below W0.heap.size W0 W') => (show zE W0 w.heap.size r (fun w' => w'.cell? ⟨b0, 0, none⟩ = some (.int .i64 (c : Int)) ∧ w'.cell? ⟨b1, 0, none⟩ = some (.bool head) ∧ w'.cell? ⟨b2, 0, none⟩ = some (.func (.func 110) #[] #[]) ∧ w'.cell? ⟨b3, 0, none⟩ = some (.func (.func 111) #[] #[.pointer (some ⟨b1, 0, none⟩)])) W' from by exact box_keep4 HX.out HE0.out.1 HE0.out.2.1 HE0.out.2.2.1 HE0.out.2.2.2 hBW))
    refine zHD HKP fun hHeld => ?_
    refine zTk 0 (h := ?_)
    refine zTk 1 (h := ?_)
    refine zTk 2 (h := ?_)
    refine zTk 3 (h := ?_)
    refine zTk 4 (h := ?_)
    refine zRd 5 (h := fun KK hKK => ?_)
    go_simp
    (refine (zb HT).mono ?_; rintro e wA ⟨rfl, hbA⟩)
    (try go_wp2_with fail)
    refine zKK hKK HKP fun hHeld2 => ?_; clear hKK KK hHeld; rename _ => hHeld
    refine zTk 6 (h := ?_)
    refine zTk 7 (h := ?_)
    refine zTk 8 (h := ?_)
    refine zTk 9 (h := ?_)
    refine zRd 10 (h := fun KK hKK => ?_)
    go_simp
    (refine (aE _ _ _).mono ?_; rintro e wB ⟨⟨lb1, rfl, hE1⟩, hbB⟩)
    (try go_wp2_with fail)
    refine zKK hKK HKP fun hHeld2 => ?_; clear hKK KK hHeld; rename _ => hHeld
    refine zRd 11 (h := fun KK hKK => ?_)
    go_simp
    refine zKK hKK HKP fun hHeld2 => ?_; clear hKK KK hHeld; rename _ => hHeld
    refine zRd 12 (h := fun KK hKK => ?_)
    go_simp
    (refine ((zb HS) _ _ _ [RR (eC 6 head)] (SortsAt.lit (vs := [_]) (new_at (by simp)) ⟨HV.out _ _ _ _ 6 hE1 rfl (by omega) (by omega) (by repeat (first | exact zR _ | assumption | apply zA | apply zD | refine zT ?_ (by assumption))) (by repeat (first | exact zR _ | assumption | apply zA | apply zD | refine zT ?_ (by assumption))), trivial⟩)).mono ?_; rintro e wC ⟨rfl, hbC⟩)
    (try go_wp2_with fail)
    refine zKK hKK HKP fun hHeld2 => ?_; clear hKK KK hHeld; rename _ => hHeld
    refine zTk 13 (h := ?_)
    refine zTk 14 (h := ?_)
    refine wpAnyH_done (by kernel_rfl) ?_ _
    have HE := below_then HB.out hHeld.1
    clear hHeld
    go_wp2_with fail
    go_ret
    exact ⟨ret_bool (by simp [*]), HE⟩
   | false =>
    go_enter Tryz.func112, Tryz.ntmps112
    go_wp2_with fail
    rw [show w.alloc (.cells #[.int .i64 r.kind, .int .i64 r.fr, .int .i64 r.en, .int .i64 r.at_, .string r.name, .slice r.A r.n r.cap] 24) = W0 from hW0]
    have HKP := Lib.hid (fun W' (hBW : Below W0.heap.size W0 W') => (show zE W0 w.heap.size r (fun w' => w'.cell? ⟨b0, 0, none⟩ = some (.int .i64 (c : Int)) ∧ w'.cell? ⟨b1, 0, none⟩ = some (.bool head) ∧ w'.cell? ⟨b2, 0, none⟩ = some (.func (.func 110) #[] #[]) ∧ w'.cell? ⟨b3, 0, none⟩ = some (.func (.func 111) #[] #[.pointer (some ⟨b1, 0, none⟩)])) W' from by exact box_keep4 HX.out HE0.out.1 HE0.out.2.1 HE0.out.2.2.1 HE0.out.2.2.2 hBW))
    refine zHD HKP fun hHeld => ?_
    refine zTk 0 (h := ?_)
    refine zTk 1 (h := ?_)
    refine zTk 2 (h := ?_)
    refine zTk 3 (h := ?_)
    refine zTk 4 (h := ?_)
    refine zRd 5 (h := fun KK hKK => ?_)
    go_simp
    (refine (zb HT).mono ?_; rintro e wA ⟨rfl, hbA⟩)
    (try go_wp2_with fail)
    refine zKK hKK HKP fun hHeld2 => ?_; clear hKK KK hHeld; rename _ => hHeld
    refine zTk 6 (h := ?_)
    refine zTk 7 (h := ?_)
    refine zTn 8 (h := ?_)
    refine zTn 9 (h := ?_)
    refine zTn 10 (h := ?_)
    refine zTn 11 (h := ?_)
    refine zTn 12 (h := ?_)
    refine zTk 13 (h := ?_)
    refine zTk 14 (h := ?_)
    refine wpAnyH_done (by kernel_rfl) ?_ _
    have HE := below_then HB.out hHeld.1
    clear hHeld
    go_wp2_with fail
    go_ret
    exact ⟨ret_bool (by simp [*]), HE⟩
 · have j1 : ¬ (c : Int) ≤ 6 := by omega
   have j2 : decide ((c : Int) ≤ 6) = false := decide_eq_false j1
   go_enter Tryz.func112, Tryz.ntmps112
   go_wp2_with fail
   rw [show w.alloc (.cells #[.int .i64 r.kind, .int .i64 r.fr, .int .i64 r.en, .int .i64 r.at_, .string r.name, .slice r.A r.n r.cap] 24) = W0 from hW0]
   have HKP := Lib.hid (fun W' (hBW : Below W0.heap.size W0 W') => (show zE W0 w.heap.size r (fun w' => w'.cell? ⟨b0, 0, none⟩ = some (.int .i64 (c : Int)) ∧ w'.cell? ⟨b1, 0, none⟩ = some (.bool head) ∧ w'.cell? ⟨b2, 0, none⟩ = some (.func (.func 110) #[] #[]) ∧ w'.cell? ⟨b3, 0, none⟩ = some (.func (.func 111) #[] #[.pointer (some ⟨b1, 0, none⟩)])) W' from by exact box_keep4 HX.out HE0.out.1 HE0.out.2.1 HE0.out.2.2.1 HE0.out.2.2.2 hBW))
   refine zHD HKP fun hHeld => ?_
   refine zTk 0 (h := ?_)
   refine zTk 1 (h := ?_)
   refine zTk 2 (h := ?_)
   refine zTn 3 (h := ?_)
   refine zTn 4 (h := ?_)
   refine zTn 5 (h := ?_)
   refine zTk 6 (h := ?_)
   refine zTk 7 (h := ?_)
   refine zTn 8 (h := ?_)
   refine zTn 9 (h := ?_)
   refine zTn 10 (h := ?_)
   refine zTn 11 (h := ?_)
   refine zTn 12 (h := ?_)
   refine zTk 13 (h := ?_)
   refine zTk 14 (h := ?_)
   refine wpAnyH_done (by kernel_rfl) ?_ _
   have HE := below_then HB.out hHeld.1
   clear hHeld
   go_wp2_with fail
   go_ret
   exact ⟨ret_bool (by simp [*]), HE⟩
theorem okE31 (x : Tree) (hk : ∀ y ∈ x.kids, EOk y) (hkd : x.kind = 31) : EOk x := by
 rintro k c head rfl h1c h7c w lb ⟨b0, b1, b2, b3, rfl, g0, g1, g2, g3⟩ hG r hm hc
 have HE0 := Lib.hid (And.intro (nb_alloc (o' := boxC r) g0) (And.intro (nb_alloc (o' := boxC r) g1) (And.intro (nb_alloc (o' := boxC r) g2) (nb_alloc (o' := boxC r) g3))))
 have hG0 := hG.alloc (boxC r)
 have hm0 := hm.boxed (Nat.le_refl _) (boxC r)
 have HX := Lib.hid (heap_alloc_new w (boxC r))
 have HB := Lib.hid ((Below.refl w.heap.size w).alloc (Nat.le_refl _) (boxC r))
 obtain ⟨W0, hW0⟩ : ∃ W0, w.alloc (boxC r) = W0 := ⟨_, rfl⟩
 rw [hW0] at hG0 hm0 HX HB HE0
 have hrk : r.kind = 31 := by rw [hm.kind]; exact hkd
 have hname : r.name.data.toList = x.name := by rw [hm.name, toBA_list]
 obtain ⟨-, e0, e1, e2, e3, e4, e5, f0, f1, f2, f3⟩ := box_keep4 HX.out HE0.out.1 HE0.out.2.1 HE0.out.2.2.1 HE0.out.2.2.2 (Below.refl _ _)
 have HS := Lib.hid (fun W (hb : Below W0.heap.size W0 W) A n cc Ps (hS : SortsAt W A n Ps x.kids) => aShaped x r W (hm0.after (Nat.le_refl _) hb) 31 A n cc Ps hS hc)
 have HV := Lib.hid (fun (w W : World) (lb : Array Value) (kk : Int) (cc : Nat) (hE : EV w lb kk head) (hkk : kk = (cc : Int)) (h1 : 1 ≤ cc) (h7 : cc ≤ 7) (hb : Below w.heap.size w W) (hb0 : Below W0.heap.size W0 W) y (hy : y ∈ x.kids) => hE.sort hb cc hkk h1 h7 (hG0.below hb0) (hk y hy) (kid_costT hc hy))
 have HT := Lib.hid (aLevel r.name W0 hG0)
 have hL5 := lev_le x.name
 rw [hname] at HT
 have hv : RR (eC c head) x = (decide (c ≤ levV x.name) && decide (0 < levV x.name) && (decide (x.kind = 31) && allP [RR (eC (levV x.name) head), RR (eC (levV x.name + 1) head)] x.kids)) := by
  obtain ⟨k, f, e, a, n, l⟩ := x
  change k = 31 at hkd
  subst hkd
  show isR nameV tokT _ (eC c head) = (decide (c ≤ levV n) && decide (0 < levV n) && (decide ((31 : Int) = 31) && allP [RR (eC (levV n) head), RR (eC (levV n + 1) head)] l))
  rw [isE nameV tokT _ _ _ _ _ _ c head h1c h7c]
  simp [eKind]
 generalize RR (eC c head) x = B at *
 generalize levV x.name = L at *
 generalize hbs : (decide (x.kind = 31) && allP [RR (eC L head), RR (eC (L + 1) head)] x.kids) = Bs at *
 subst hv
 have q31 : (r.kind == 31) = true := by simp [hrk]
 have q30 : (r.kind == 30) = false := by simp [hrk]
 have q21 : (r.kind == 21) = false := by simp [hrk]
 have q22 : (r.kind == 22) = false := by simp [hrk]
 have q23 : (r.kind == 23) = false := by simp [hrk]
 have q24 : (r.kind == 24) = false := by simp [hrk]
 have q25 : (r.kind == 25) = false := by simp [hrk]
 have q33 : (r.kind == 33) = false := by simp [hrk]
 have q26 : (r.kind == 26) = false := by simp [hrk]
 have q32 : (r.kind == 32) = false := by simp [hrk]
 have q27 : (r.kind == 27) = false := by simp [hrk]
 have q28 : (r.kind == 28) = false := by simp [hrk]
 clear hk hkd hrk hG hm hc hG0 hm0 g0 g1 g2 g3 hname
 show Calls Tryz.prog 112 #[r.val, .pointer (some ⟨b0, 0, none⟩), .pointer (some ⟨b1, 0, none⟩), .pointer (some ⟨b2, 0, none⟩), .pointer (some ⟨b3, 0, none⟩)] w _
 unfold RN.val at HS ⊢
 have l1 : (L : Int) ≤ 5 := by omega
 have hwr : IntKind.i64.wrap ((L : Int) + 1) = (L : Int) + 1 := by rw [IntKind.wrap_i64]; omega
 have l0 : (0 : Int) ≤ (L : Int) := by omega
 by_cases hcL : c ≤ L
 · have j1 : (c : Int) ≤ (L : Int) := by omega
   have j2 : decide ((c : Int) ≤ (L : Int)) = true := decide_eq_true j1
   have j3 : (0 : Int) < (L : Int) := by omega
   have j4 : decide ((0 : Int) < (L : Int)) = true := decide_eq_true j3
   have j5 : 0 < L := by omega
   go_enter Tryz.func112, Tryz.ntmps112
   go_wp2_with (go_at_call 113; go_must (rw [show w.alloc (.cells #[.int .i64 r.kind, .int .i64 r.fr, .int .i64 r.en, .int .i64 r.at_, .string r.name, .slice r.A r.n r.cap] 24) = W0 from hW0]; refine HT.out.mono ?_); rintro e wA ⟨rfl, hbA⟩; clear e0 e1 e2 e3 e4 e5 f0 f1 f2 f3; obtain ⟨-, e0, e1, e2, e3, e4, e5, f0, f1, f2, f3⟩ := box_keep4 HX.out HE0.out.1 HE0.out.2.1 HE0.out.2.2.1 HE0.out.2.2.2 hbA)
   have HKP := Lib.hid (fun W' (hBW : Below W0.heap.size W0 W') => (show zE W0 w.heap.size r (fun w' => w'.cell? ⟨b0, 0, none⟩ = some (.int .i64 (c : Int)) ∧ w'.cell? ⟨b1, 0, none⟩ = some (.bool head) ∧ w'.cell? ⟨b2, 0, none⟩ = some (.func (.func 110) #[] #[]) ∧ w'.cell? ⟨b3, 0, none⟩ = some (.func (.func 111) #[] #[.pointer (some ⟨b1, 0, none⟩)])) W' from by exact box_keep4 HX.out HE0.out.1 HE0.out.2.1 HE0.out.2.2.1 HE0.out.2.2.2 hBW))
   refine zHD HKP fun hHeld => ?_
   refine zTk 0 (h := ?_)
   refine zTk 1 (h := ?_)
   refine zTk 2 (h := ?_)
   refine zTk 3 (h := ?_)
   refine zTk 4 (h := ?_)
   refine zTk 5 (h := ?_)
   refine zTk 6 (h := ?_)
   refine zTk 7 (h := ?_)
   refine zTk 8 (h := ?_)
   refine zTk 9 (h := ?_)
   refine zTk 10 (h := ?_)
   refine zTk 12 (h := ?_)
   refine zTk 13 (h := ?_)
   refine zTk 14 (h := ?_)
   refine zRd 11 (h := fun KK hKK => ?_)
   go_simp
   (refine (aE _ _ _).mono ?_; rintro e wB ⟨⟨lb1, rfl, hE1⟩, hbB⟩)
   (try go_wp2_with fail)
   refine zKK hKK HKP fun hHeld2 => ?_; clear hKK KK hHeld; rename _ => hHeld
   refine zRd 15 (h := fun KK hKK => ?_)
   go_simp
   (refine (aE _ _ _).mono ?_; rintro e wC ⟨⟨lb2, rfl, hE2⟩, hbC⟩)
   (try go_wp2_with fail)
   refine zKK hKK HKP fun hHeld2 => ?_; clear hKK KK hHeld; rename _ => hHeld
   refine zRd 16 (h := fun KK hKK => ?_)
   go_simp
   refine zKK hKK HKP fun hHeld2 => ?_; clear hKK KK hHeld; rename _ => hHeld
   refine zRd 17 (h := fun KK hKK => ?_)
   go_simp
   (refine ((zb HS) _ _ _ [RR (eC L head), RR (eC (L + 1) head)] (SortsAt.lit (vs := [_, _]) (new_at (by simp)) ⟨HV.out _ _ _ _ L hE1 rfl (by omega) (by omega) (by repeat (first | exact zR _ | assumption | apply zA | apply zD | refine zT ?_ (by assumption))) (by repeat (first | exact zR _ | assumption | apply zA | apply zD | refine zT ?_ (by assumption))), HV.out _ _ _ _ (L + 1) hE2 (by first | omega | (rw [hwr]; omega)) (by omega) (by omega) (by repeat (first | exact zR _ | assumption | apply zA | apply zD | refine zT ?_ (by assumption))) (by repeat (first | exact zR _ | assumption | apply zA | apply zD | refine zT ?_ (by assumption))), trivial⟩)).mono ?_; rintro e wD ⟨rfl, hbD⟩)
   (try go_wp2_with fail)
   refine zKK hKK HKP fun hHeld2 => ?_; clear hKK KK hHeld; rename _ => hHeld
   refine zTk 18 (h := ?_)
   refine zTk 19 (h := ?_)
   refine wpAnyH_done (by kernel_rfl) ?_ _
   have HE := below_then HB.out hHeld.1
   clear hHeld
   go_wp2_with fail
   go_ret
   exact ⟨ret_bool (by simp [*]), HE⟩
 · have j1 : ¬ (c : Int) ≤ (L : Int) := by omega
   have j2 : decide ((c : Int) ≤ (L : Int)) = false := decide_eq_false j1
   go_enter Tryz.func112, Tryz.ntmps112
   go_wp2_with (go_at_call 113; go_must (rw [show w.alloc (.cells #[.int .i64 r.kind, .int .i64 r.fr, .int .i64 r.en, .int .i64 r.at_, .string r.name, .slice r.A r.n r.cap] 24) = W0 from hW0]; refine HT.out.mono ?_); rintro e wA ⟨rfl, hbA⟩; clear e0 e1 e2 e3 e4 e5 f0 f1 f2 f3; obtain ⟨-, e0, e1, e2, e3, e4, e5, f0, f1, f2, f3⟩ := box_keep4 HX.out HE0.out.1 HE0.out.2.1 HE0.out.2.2.1 HE0.out.2.2.2 hbA)
   have HKP := Lib.hid (fun W' (hBW : Below W0.heap.size W0 W') => (show zE W0 w.heap.size r (fun w' => w'.cell? ⟨b0, 0, none⟩ = some (.int .i64 (c : Int)) ∧ w'.cell? ⟨b1, 0, none⟩ = some (.bool head) ∧ w'.cell? ⟨b2, 0, none⟩ = some (.func (.func 110) #[] #[]) ∧ w'.cell? ⟨b3, 0, none⟩ = some (.func (.func 111) #[] #[.pointer (some ⟨b1, 0, none⟩)])) W' from by exact box_keep4 HX.out HE0.out.1 HE0.out.2.1 HE0.out.2.2.1 HE0.out.2.2.2 hBW))
   refine zHD HKP fun hHeld => ?_
   refine zTk 0 (h := ?_)
   refine zTk 1 (h := ?_)
   refine zTk 2 (h := ?_)
   refine zTk 3 (h := ?_)
   refine zTn 4 (h := ?_)
   refine zTn 5 (h := ?_)
   refine zTk 6 (h := ?_)
   refine zTk 7 (h := ?_)
   refine zTn 8 (h := ?_)
   refine zTn 9 (h := ?_)
   refine zTn 10 (h := ?_)
   refine zTn 11 (h := ?_)
   refine zTn 12 (h := ?_)
   refine zTn 13 (h := ?_)
   refine zTn 14 (h := ?_)
   refine zTn 15 (h := ?_)
   refine zTn 16 (h := ?_)
   refine zTn 17 (h := ?_)
   refine zTk 18 (h := ?_)
   refine zTk 19 (h := ?_)
   refine wpAnyH_done (by kernel_rfl) ?_ _
   have HE := below_then HB.out hHeld.1
   clear hHeld
   go_wp2_with fail
   go_ret
   exact ⟨ret_bool (by simp [*]), HE⟩
theorem okE32 (x : Tree) (hk : ∀ y ∈ x.kids, EOk y) (hkd : x.kind = 32) : EOk x := by
 rintro k c head rfl h1c h7c w lb ⟨b0, b1, b2, b3, rfl, g0, g1, g2, g3⟩ hG r hm hc
 have HE0 := Lib.hid (And.intro (nb_alloc (o' := boxC r) g0) (And.intro (nb_alloc (o' := boxC r) g1) (And.intro (nb_alloc (o' := boxC r) g2) (nb_alloc (o' := boxC r) g3))))
 have hG0 := hG.alloc (boxC r)
 have hm0 := hm.boxed (Nat.le_refl _) (boxC r)
 have HX := Lib.hid (heap_alloc_new w (boxC r))
 have HB := Lib.hid ((Below.refl w.heap.size w).alloc (Nat.le_refl _) (boxC r))
 obtain ⟨W0, hW0⟩ : ∃ W0, w.alloc (boxC r) = W0 := ⟨_, rfl⟩
 rw [hW0] at hG0 hm0 HX HB HE0
 have hrk : r.kind = 32 := by rw [hm.kind]; exact hkd
 have hname : r.name.data.toList = x.name := by rw [hm.name, toBA_list]
 obtain ⟨-, e0, e1, e2, e3, e4, e5, f0, f1, f2, f3⟩ := box_keep4 HX.out HE0.out.1 HE0.out.2.1 HE0.out.2.2.1 HE0.out.2.2.2 (Below.refl _ _)
 have HS := Lib.hid (fun W (hb : Below W0.heap.size W0 W) A n cc Ps (hS : SortsAt W A n Ps x.kids) => aShaped x r W (hm0.after (Nat.le_refl _) hb) r.kind A n cc Ps hS hc)
 have HT := Lib.hid (fun W (hb : Below W0.heap.size W0 W) => aWords r.name ⟨#[105, 110, 116, 32, 102, 108, 111, 97, 116, 54, 52, 32, 108, 101, 110, 32, 112, 114, 105, 110, 116, 32, 112, 97, 110, 105, 99]⟩ builtW 5 rfl (by decide +kernel) (by decide) (by decide +kernel) (by decide) W (hG0.below hb))
 rw [hname] at HT
 have HA := Lib.hid (fun W (hb : Below W0.heap.size W0 W) => aAll x r W (hm0.after (Nat.le_refl _) hb) 110 #[] hc)
 have HR := Lib.hid (fun (W : World) (hb : Below W0.heap.size W0 W) (g : Nat) (hg : W.heap[g]? = some (.cells (List.replicate x.kids.length (.func (.func 110) #[] #[])).toArray 64 (0, 0))) => SortsAt.rep (P := RR 101) (l := x.kids) hg (fun y hy => (okInner y (hk y hy)).sort (fun args w => by rfl) (hG0.below hb) (kid_costT hc hy)))
 have hv : RR (eC c head) x = (hasB builtW x.name && (decide (x.kind = r.kind) && allP (List.replicate x.kids.length (RR 101)) x.kids)) := by
  rw [hrk]
  obtain ⟨k, f, e, a, n, l⟩ := x
  change k = 32 at hkd
  subst hkd
  show isR nameV tokT _ (eC c head) = (hasB builtW n && (decide ((32 : Int) = 32) && allP (List.replicate l.length (RR 101)) l))
  rw [isE nameV tokT _ _ _ _ _ _ c head h1c h7c, allP_rep]
  simp [eKind, hasB]
 generalize RR (eC c head) x = B at *
 generalize hasB builtW x.name = Bt at *
 generalize hbs : (decide (x.kind = r.kind) && allP (List.replicate x.kids.length (RR 101)) x.kids) = Bs at *
 subst hv
 have q31 : (r.kind == 31) = false := by simp [hrk]
 have q30 : (r.kind == 30) = false := by simp [hrk]
 have q21 : (r.kind == 21) = false := by simp [hrk]
 have q22 : (r.kind == 22) = false := by simp [hrk]
 have q23 : (r.kind == 23) = false := by simp [hrk]
 have q24 : (r.kind == 24) = false := by simp [hrk]
 have q25 : (r.kind == 25) = false := by simp [hrk]
 have q33 : (r.kind == 33) = false := by simp [hrk]
 have q26 : (r.kind == 26) = false := by simp [hrk]
 have q32 : (r.kind == 32) = true := by simp [hrk]
 have q27 : (r.kind == 27) = false := by simp [hrk]
 have q28 : (r.kind == 28) = false := by simp [hrk]
 clear hk hkd hrk hG hm hc hG0 hm0 g0 g1 g2 g3 hname
 show Calls Tryz.prog 112 #[r.val, .pointer (some ⟨b0, 0, none⟩), .pointer (some ⟨b1, 0, none⟩), .pointer (some ⟨b2, 0, none⟩), .pointer (some ⟨b3, 0, none⟩)] w _
 unfold RN.val at HS HA ⊢
 cases Bt with
 | true =>
  go_enter Tryz.func112, Tryz.ntmps112
  go_wp2_with fail
  rw [show w.alloc (.cells #[.int .i64 r.kind, .int .i64 r.fr, .int .i64 r.en, .int .i64 r.at_, .string r.name, .slice r.A r.n r.cap] 24) = W0 from hW0]
  have HKP := Lib.hid (fun W' (hBW : Below W0.heap.size W0 W') => (show zE W0 w.heap.size r (fun w' => w'.cell? ⟨b0, 0, none⟩ = some (.int .i64 (c : Int)) ∧ w'.cell? ⟨b1, 0, none⟩ = some (.bool head) ∧ w'.cell? ⟨b2, 0, none⟩ = some (.func (.func 110) #[] #[]) ∧ w'.cell? ⟨b3, 0, none⟩ = some (.func (.func 111) #[] #[.pointer (some ⟨b1, 0, none⟩)])) W' from by exact box_keep4 HX.out HE0.out.1 HE0.out.2.1 HE0.out.2.2.1 HE0.out.2.2.2 hBW))
  refine zHD HKP fun hHeld => ?_
  refine zTk 0 (h := ?_)
  refine zTk 1 (h := ?_)
  refine zRd 2 (h := fun KK hKK => ?_)
  go_simp
  (refine (zb HT).mono ?_; rintro e wA ⟨rfl, hbA⟩)
  (try go_wp2_with fail)
  refine zKK hKK HKP fun hHeld2 => ?_; clear hKK KK hHeld; rename _ => hHeld
  refine zTk 3 (h := ?_)
  refine zTk 4 (h := ?_)
  refine zTk 5 (h := ?_)
  refine zTk 6 (h := ?_)
  refine zTk 7 (h := ?_)
  refine zTk 8 (h := ?_)
  refine zRd 9 (h := fun KK hKK => ?_)
  go_simp
  (refine (zb HA).mono ?_; rintro e wB ⟨⟨g, rfl, hg, hrow⟩, hbB⟩)
  (try go_wp2_with fail)
  refine zKK hKK HKP fun hHeld2 => ?_; clear hKK KK hHeld; rename _ => hHeld
  refine zRd 10 (h := fun KK hKK => ?_)
  go_simp
  (refine ((zb HS) _ _ _ _ ((zb HR) _ hrow)).mono ?_; rintro e wC ⟨rfl, hbC⟩)
  (try go_wp2_with fail)
  refine zKK hKK HKP fun hHeld2 => ?_; clear hKK KK hHeld; rename _ => hHeld
  refine zTk 11 (h := ?_)
  refine zTk 12 (h := ?_)
  refine wpAnyH_done (by kernel_rfl) ?_ _
  have HE := below_then HB.out hHeld.1
  clear hHeld
  go_wp2_with fail
  go_ret
  exact ⟨ret_bool (by simp [*]), HE⟩
 | false =>
  go_enter Tryz.func112, Tryz.ntmps112
  go_wp2_with fail
  rw [show w.alloc (.cells #[.int .i64 r.kind, .int .i64 r.fr, .int .i64 r.en, .int .i64 r.at_, .string r.name, .slice r.A r.n r.cap] 24) = W0 from hW0]
  have HKP := Lib.hid (fun W' (hBW : Below W0.heap.size W0 W') => (show zE W0 w.heap.size r (fun w' => w'.cell? ⟨b0, 0, none⟩ = some (.int .i64 (c : Int)) ∧ w'.cell? ⟨b1, 0, none⟩ = some (.bool head) ∧ w'.cell? ⟨b2, 0, none⟩ = some (.func (.func 110) #[] #[]) ∧ w'.cell? ⟨b3, 0, none⟩ = some (.func (.func 111) #[] #[.pointer (some ⟨b1, 0, none⟩)])) W' from by exact box_keep4 HX.out HE0.out.1 HE0.out.2.1 HE0.out.2.2.1 HE0.out.2.2.2 hBW))
  refine zHD HKP fun hHeld => ?_
  refine zTk 0 (h := ?_)
  refine zTk 1 (h := ?_)
  refine zRd 2 (h := fun KK hKK => ?_)
  go_simp
  (refine (zb HT).mono ?_; rintro e wA ⟨rfl, hbA⟩)
  (try go_wp2_with fail)
  refine zKK hKK HKP fun hHeld2 => ?_; clear hKK KK hHeld; rename _ => hHeld
  refine zTk 3 (h := ?_)
  refine zTn 4 (h := ?_)
  refine zTn 5 (h := ?_)
  refine zTn 6 (h := ?_)
  refine zTn 7 (h := ?_)
  refine zTn 8 (h := ?_)
  refine zTn 9 (h := ?_)
  refine zTn 10 (h := ?_)
  refine zTk 11 (h := ?_)
  refine zTk 12 (h := ?_)
  refine wpAnyH_done (by kernel_rfl) ?_ _
  have HE := below_then HB.out hHeld.1
  clear hHeld
  go_wp2_with fail
  go_ret
  exact ⟨ret_bool (by simp [*]), HE⟩
theorem okEno (x : Tree) (hkd31 : x.kind ≠ 31) (hkd30 : x.kind ≠ 30) (hkd21 : x.kind ≠ 21) (hkd22 : x.kind ≠ 22) (hkd23 : x.kind ≠ 23) (hkd24 : x.kind ≠ 24) (hkd25 : x.kind ≠ 25) (hkd33 : x.kind ≠ 33) (hkd26 : x.kind ≠ 26) (hkd32 : x.kind ≠ 32) (hkd27 : x.kind ≠ 27) (hkd28 : x.kind ≠ 28) : EOk x := by
 rintro k c head rfl h1c h7c w lb ⟨b0, b1, b2, b3, rfl, g0, g1, g2, g3⟩ hG r hm hc
 have HE0 := Lib.hid (And.intro (nb_alloc (o' := boxC r) g0) (And.intro (nb_alloc (o' := boxC r) g1) (And.intro (nb_alloc (o' := boxC r) g2) (nb_alloc (o' := boxC r) g3))))
 have hG0 := hG.alloc (boxC r)
 have hm0 := hm.boxed (Nat.le_refl _) (boxC r)
 have HX := Lib.hid (heap_alloc_new w (boxC r))
 have HB := Lib.hid ((Below.refl w.heap.size w).alloc (Nat.le_refl _) (boxC r))
 obtain ⟨W0, hW0⟩ : ∃ W0, w.alloc (boxC r) = W0 := ⟨_, rfl⟩
 rw [hW0] at hG0 hm0 HX HB HE0
 have hname : r.name.data.toList = x.name := by rw [hm.name, toBA_list]
 obtain ⟨-, e0, e1, e2, e3, e4, e5, f0, f1, f2, f3⟩ := box_keep4 HX.out HE0.out.1 HE0.out.2.1 HE0.out.2.2.1 HE0.out.2.2.2 (Below.refl _ _)
 have hrk31 : r.kind ≠ 31 := by rw [hm.kind]; exact hkd31
 have hrk30 : r.kind ≠ 30 := by rw [hm.kind]; exact hkd30
 have hrk21 : r.kind ≠ 21 := by rw [hm.kind]; exact hkd21
 have hrk22 : r.kind ≠ 22 := by rw [hm.kind]; exact hkd22
 have hrk23 : r.kind ≠ 23 := by rw [hm.kind]; exact hkd23
 have hrk24 : r.kind ≠ 24 := by rw [hm.kind]; exact hkd24
 have hrk25 : r.kind ≠ 25 := by rw [hm.kind]; exact hkd25
 have hrk33 : r.kind ≠ 33 := by rw [hm.kind]; exact hkd33
 have hrk26 : r.kind ≠ 26 := by rw [hm.kind]; exact hkd26
 have hrk32 : r.kind ≠ 32 := by rw [hm.kind]; exact hkd32
 have hrk27 : r.kind ≠ 27 := by rw [hm.kind]; exact hkd27
 have hrk28 : r.kind ≠ 28 := by rw [hm.kind]; exact hkd28
 have hv : RR (eC c head) x = false := by
  obtain ⟨k, f, e, a, n, l⟩ := x
  change k ≠ 31 at hkd31
  change k ≠ 30 at hkd30
  change k ≠ 21 at hkd21
  change k ≠ 22 at hkd22
  change k ≠ 23 at hkd23
  change k ≠ 24 at hkd24
  change k ≠ 25 at hkd25
  change k ≠ 33 at hkd33
  change k ≠ 26 at hkd26
  change k ≠ 32 at hkd32
  change k ≠ 27 at hkd27
  change k ≠ 28 at hkd28
  show isR nameV tokT _ (eC c head) = false
  rw [isE nameV tokT _ _ _ _ _ _ c head h1c h7c]
  simp [eKind, hkd31, hkd30, hkd21, hkd22, hkd23, hkd24, hkd25, hkd33, hkd26, hkd32, hkd27, hkd28]
 generalize RR (eC c head) x = B at *
 subst hv
 have q31 : (r.kind == 31) = false := beq_eq_false_iff_ne.2 hrk31
 have q30 : (r.kind == 30) = false := beq_eq_false_iff_ne.2 hrk30
 have q21 : (r.kind == 21) = false := beq_eq_false_iff_ne.2 hrk21
 have q22 : (r.kind == 22) = false := beq_eq_false_iff_ne.2 hrk22
 have q23 : (r.kind == 23) = false := beq_eq_false_iff_ne.2 hrk23
 have q24 : (r.kind == 24) = false := beq_eq_false_iff_ne.2 hrk24
 have q25 : (r.kind == 25) = false := beq_eq_false_iff_ne.2 hrk25
 have q33 : (r.kind == 33) = false := beq_eq_false_iff_ne.2 hrk33
 have q26 : (r.kind == 26) = false := beq_eq_false_iff_ne.2 hrk26
 have q32 : (r.kind == 32) = false := beq_eq_false_iff_ne.2 hrk32
 have q27 : (r.kind == 27) = false := beq_eq_false_iff_ne.2 hrk27
 have q28 : (r.kind == 28) = false := beq_eq_false_iff_ne.2 hrk28
 clear hkd31 hrk31 hkd30 hrk30 hkd21 hrk21 hkd22 hrk22 hkd23 hrk23 hkd24 hrk24 hkd25 hrk25 hkd33 hrk33 hkd26 hrk26 hkd32 hrk32 hkd27 hrk27 hkd28 hrk28 hG hm hc hG0 hm0 g0 g1 g2 g3 hname
 show Calls Tryz.prog 112 #[r.val, .pointer (some ⟨b0, 0, none⟩), .pointer (some ⟨b1, 0, none⟩), .pointer (some ⟨b2, 0, none⟩), .pointer (some ⟨b3, 0, none⟩)] w _
 unfold RN.val
 go_enter Tryz.func112, Tryz.ntmps112
 go_wp2_with fail
 go_ret
 rw [show w.alloc (.cells #[.int .i64 r.kind, .int .i64 r.fr, .int .i64 r.en, .int .i64 r.at_, .string r.name, .slice r.A r.n r.cap] 24) = W0 from hW0]
 exact ⟨rfl, HB.out⟩
def FV (w : World) (lb : Array Value) (head : Bool) : Prop := ∃ b b1, lb = #[.pointer (some ⟨b, 0, none⟩)] ∧ w.heap[b]? = some (.cells #[.func (.func 111) #[] #[.pointer (some ⟨b1, 0, none⟩)]] 64 (0, 0)) ∧ w.heap[b1]? = some (.cells #[.bool head] 4 (0, 0))
def KV (w : World) (lb : Array Value) : Prop := ∃ b, lb = #[.pointer (some ⟨b, 0, none⟩)] ∧ w.heap[b]? = some (.cells #[.func (.func 110) #[] #[]] 64 (0, 0))
theorem FV.later {w w' : World} {lb : Array Value} {head : Bool} (h : FV w lb head) (hb : Below w.heap.size w w') : FV w' lb head := by
 obtain ⟨b, b1, e, h1, h2⟩ := h
 exact ⟨b, b1, e, nb_below h1 hb, nb_below h2 hb⟩
theorem KV.later {w w' : World} {lb : Array Value} (h : KV w lb) (hb : Below w.heap.size w w') : KV w' lb := by
 obtain ⟨b, e, h1⟩ := h
 exact ⟨b, e, nb_below h1 hb⟩
def dFun (head : Bool) : Nat := if head then 1020 else 20
theorem fun20 (head : Bool) (k f e a : Int) (n : BL) (l : List Tree) : isR nameV tokT (.mk k f e a n l) (dFun head) = ((decide (k = 25) || decide (k = 26)) && isR nameV tokT (.mk k f e a n l) (eC 7 head)) := by
 cases head
 · exact isR_20 nameV tokT k f e a n l
 · exact isR_1020 nameV tokT k f e a n l
theorem okFun {w0 : World} {lb : Array Value} {head : Bool} (hF : FV w0 lb head) (hGG : LexG w0) {y : Tree} (hy : EOk y) (hc : costT y ≤ 3000) : SortT (.func (.func 136) #[] lb) (RR (dFun head)) w0 y := by
 obtain ⟨b, b1, rfl, h1, h2⟩ := hF
 refine ⟨136, _, rfl, fun args w => by rfl, fun w r hW hm => ?_⟩
 have hb0 := (Below.refl w.heap.size w).alloc (Nat.le_refl _) (boxC r)
 obtain ⟨_, _, hg, eg, hO⟩ := (okOperand (nb_below h2 hW) (hGG.below hW) hy hc)
 injection hg with hg1 hg2 hg3
 injection hg1 with hg1
 subst hg1 hg3
 have HO := Lib.hid (hO _ r hb0 (hm.boxed (Nat.le_refl _) _))
 have HB := Lib.hid hb0
 obtain ⟨u0, _, v0⟩ := cell1 (nb_below h1 hW)
 have hv : RR (dFun head) y = ((decide (r.kind = 25) || decide (r.kind = 26)) && RR (eC 7 head) y) := by
  rw [hm.kind]
  obtain ⟨k, f, e, a, n, l⟩ := y
  exact fun20 head k f e a n l
 generalize RR (dFun head) y = B at *
 generalize RR (eC 7 head) y = B7 at *
 subst hv
 clear hm hc h1 h2 hGG hW hb0 hO
 have eg2 : ∀ args w, (callFunc 111 args).run Tryz.prog w = .ok (.enter 111 args) w := fun args w => by rfl
 show Calls Tryz.prog 136 #[r.val, .pointer (some ⟨b, 0, none⟩)] w _
 unfold RN.val at HO ⊢
 by_cases k25 : r.kind = 25
 · have b25 : (r.kind == 25) = true := by simp [k25]
   have d25 : decide (r.kind = 25) = true := by simp [k25]
   clear k25
   go_enter Tryz.func136, Tryz.ntmps136
   go_wp2_with (go_at_fn 111; refine HO.out.mono ?_; rintro e wA ⟨rfl, hbA⟩)
   go_ret
   exact ⟨ret_bool (by simp [*]), below_then HB.out hbA⟩
 · have b25 : (r.kind == 25) = false := by simp [k25]
   have d25 : decide (r.kind = 25) = false := by simp [k25]
   clear k25
   by_cases k26 : r.kind = 26
   · have b26 : (r.kind == 26) = true := by simp [k26]
     have d26 : decide (r.kind = 26) = true := by simp [k26]
     clear k26
     go_enter Tryz.func136, Tryz.ntmps136
     go_wp2_with (go_at_fn 111; refine HO.out.mono ?_; rintro e wA ⟨rfl, hbA⟩)
     go_ret
     exact ⟨ret_bool (by simp [*]), below_then HB.out hbA⟩
   · have b26 : (r.kind == 26) = false := by simp [k26]
     have d26 : decide (r.kind = 26) = false := by simp [k26]
     clear k26
     go_enter Tryz.func136, Tryz.ntmps136
     go_wp2_with fail
     go_ret
     exact ⟨ret_bool (by simp [*]), HB.out⟩
def KeyOk (y : Tree) : Prop := ∀ (W : World) (lb : Array Value), KV W lb → LexG W → ∀ (r : RN), NodeM W W.heap.size y r → costT y ≤ 3000 →
 Calls Tryz.prog 137 (#[r.val] ++ lb) W fun e w' => e = .returned (.bool (RR 19 y)) ∧ Below W.heap.size W w'
theorem KV.sort {w : World} {lb : Array Value} (h : KV w lb) (hG : LexG w) {y : Tree} (hy : KeyOk y) (hc : costT y ≤ 3000) : SortT (.func (.func 137) #[] lb) (RR 19) w y :=
 ⟨137, lb, rfl, fun args w => by rfl, fun W rx hW hm => hy W lb (h.later hW) (hG.below hW) rx hm hc⟩
theorem okKeyed (y : Tree) (hk : ∀ z ∈ y.kids, EOk z) : KeyOk y := by
 rintro w lb ⟨b, rfl, h1⟩ hG r hm hc
 have hb0 := below2 w (boxC r) (.cells #[.func (.func 110) #[] #[]] 64)
 have hG2 := hG.below hb0
 have hrow := heap_alloc_new (w.alloc (boxC r)) (.cells #[.func (.func 110) #[] #[]] 64)
 rw [World.size_alloc] at hrow
 have HT := Lib.hid (aNamed y r ((w.alloc (boxC r)).alloc (.cells #[.func (.func 110) #[] #[]] 64)) (hm.boxed2 _ _) 29 (some ⟨w.heap.size + 1, 0, none⟩) 1 1 [RR 101] (SortsAt.lit (vs := [.func (.func 110) #[] #[]]) hrow ⟨fun z hz => (okInner z (hk z hz)).sort (fun args w => by rfl) hG2 (kid_costT hc hz), trivial⟩) hc)
 have hv : (nameV y.name && decide (y.kind = 29) && allP [RR 101] y.kids) = RR 19 y := by
  obtain ⟨k, f, e, a, n, l⟩ := y
  show (nameV n && decide (k = 29) && allP [RR 101] l) = isR nameV tokT (.mk k f e a n l) 19
  rw [isR_19]
 rw [hv] at HT
 generalize RR 19 y = B at *
 have HB := Lib.hid hb0
 obtain ⟨u0, _, v0⟩ := cell1 h1
 clear hm hc h1 hG hG2 hb0 hv hrow hk
 show Calls Tryz.prog 137 #[r.val, .pointer (some ⟨b, 0, none⟩)] w _
 unfold RN.val at HT ⊢
 go_enter Tryz.func137, Tryz.ntmps137
 go_wp2_with (go_at_call 58; refine HT.out.mono ?_; rintro e wA ⟨rfl, hbA⟩)
 go_ret
 exact ⟨rfl, below_then HB.out hbA⟩
theorem begun_world (w : World) (r : RN) (v1 v2 : Value) : ∃ W0, ((w.alloc (boxC r)).alloc (.cells #[v1] 64)).alloc (.cells #[v2] 64) = W0 ∧ Below w.heap.size w W0 ∧ W0.heap.size = w.heap.size + 3 ∧ W0.heap[w.heap.size]? = some (boxC r) ∧ W0.heap[w.heap.size + 1]? = some (.cells #[v1] 64 (0, 0)) ∧ W0.heap[w.heap.size + 1 + 1]? = some (.cells #[v2] 64 (0, 0)) :=
 ⟨_, rfl, bel_alloc (bel_alloc (bel_alloc (Below.refl _ _))), by simp [World.size_alloc], nb_alloc (nb_alloc (heap_alloc_new _ _)), nb_alloc (new_at (by simp)), new_at (by simp)⟩
theorem SortsAt.first {w W : World} {g m : Nat} {u v : Value} {P Q : Tree → Bool} {y : Tree} {l : List Tree} (h : w.heap[g]? = some (.cells (List.replicate m v).toArray 64 (0, 0))) (hm : m = l.length + 1)
  (hW : (w.setCell ⟨g, 0, none⟩ u) = W) (hu : SortT u Q W y) (hv : ∀ z ∈ l, SortT v P W z) : SortsAt W (some ⟨g, 0, none⟩) m (Q :: List.replicate l.length P) (y :: l) := by
 subst hm
 have hrow : W.heap[g]? = some (.cells (u :: List.replicate l.length v).toArray 64 (0, 0)) := by
  rw [← hW, set_heap h]
  simp [List.replicate_succ]
 refine ⟨u :: List.replicate l.length v, fun _ => ⟨g, 0, rfl, (Array.getElem?_eq_some_iff.1 hrow).1, fun i x hx j u' hu' => ?_⟩, by simp, by simp, fun i u' Q' x hu' hQ hx => ?_⟩
 · cases j with
   | zero =>
    cases hu'
    rw [cell_of_row _ _ _ _ _ _ hrow, List.getElem?_toArray]
    simpa using hx
   | succ j => simp at hu'
 · cases i with
   | zero => cases hu'; cases hQ; cases hx; exact hu
   | succ i =>
    simp only [List.getElem?_cons_succ] at hu' hQ hx
    have hi : i < l.length := (List.getElem?_eq_some_iff.1 hx).1
    rw [List.getElem?_replicate, if_pos hi] at hu' hQ
    cases hu'; cases hQ
    exact hv x (List.mem_of_getElem? hx)
theorem row_first {w : World} {g m : Nat} {v : Value} (hm : (0 : Int) < (m : Int)) (h : w.heap[g]? = some (.cells (List.replicate m v).toArray 64 (0, 0))) : w.cell? ⟨g, 0, none⟩ = some v ∧ w.frozen? ⟨g, 0, none⟩ = false ∧ g < w.heap.size := by
 have h0 : 0 < m := by omega
 refine ⟨?_, ?_, (Array.getElem?_eq_some_iff.1 h).1⟩
 · rw [cell_of_row _ _ _ _ _ _ h, List.getElem?_toArray]
   simp [h0]
 · simp [World.frozen?, h]
theorem aBegun27 (x : Tree) (y : Tree) (l : List Tree) (hkids : x.kids = y :: l) (r : RN) (w : World) (head : Bool) (hk : ∀ z ∈ x.kids, EOk z) (hkd : x.kind = 27) (b1 : Nat) (h1 : w.heap[b1]? = some (.cells #[.bool head] 4 (0, 0))) (hG : LexG w) (hm : NodeM w w.heap.size x r) (hc : costT x ≤ 3000) :
  Calls Tryz.prog 115 #[r.val, .bool head, .func (.func 110) #[] #[], .func (.func 111) #[] #[.pointer (some ⟨b1, 0, none⟩)]] w fun e w' => e = .returned (.bool (x.name.isEmpty && (RR (dFun head) y && l.all (RR 101)))) ∧ Below w.heap.size w w' := by
 obtain ⟨W0, hW0, hb0, hsz, hx0, hi0, ho0⟩ := begun_world w r (.func (.func 110) #[] #[]) (.func (.func 111) #[] #[.pointer (some ⟨b1, 0, none⟩)])
 have hm0 := hm.after (Nat.le_refl _) hb0
 have hG0 := hG.below hb0
 have h10 := nb_below h1 hb0
 have hFV : FV W0 #[.pointer (some ⟨w.heap.size + 1 + 1, 0, none⟩)] head := ⟨_, _, rfl, ho0, h10⟩
 have hlen : x.kids.length = l.length + 1 := by rw [hkids]; rfl
 have hrk : r.kind = 27 := by rw [hm.kind]; exact hkd
 have HA := Lib.hid (aAll x r W0 hm0 110 #[] hc)
 have HP := Lib.hid (fun (wA W : World) (g : Nat) (hbA : Below W0.heap.size W0 wA) (hge : W0.heap.size ≤ g) (hrow : wA.heap[g]? = some (.cells (List.replicate x.kids.length (.func (.func 110) #[] #[])).toArray 64 (0, 0)))
   (hW : wA.setCell ⟨g, 0, none⟩ (.func (.func 136) #[] #[.pointer (some ⟨w.heap.size + 1 + 1, 0, none⟩)]) = W) =>
  have hbW : Below W0.heap.size W0 W := by rw [← hW]; exact hbA.setCell (p := ⟨g, 0, none⟩) hge _
  And.intro hbW (aPlain x r W (hm0.after (Nat.le_refl _) hbW) r.kind (some ⟨g, 0, none⟩) x.kids.length x.kids.length (RR (dFun head) :: List.replicate l.length (RR 101))
   (by
    have := SortsAt.first hrow hlen hW (okFun (hFV.later hbW) (hG0.below hbW) (hk y (by rw [hkids]; simp)) (kid_costT hc (by rw [hkids]; simp)))
     (fun z hz => (okInner z (hk z (by rw [hkids]; simp [hz]))).sort (fun args w => by rfl) (hG0.below hbW) (kid_costT hc (by rw [hkids]; simp [hz])))
    rwa [← hkids] at this) hc))
 have hv : (x.name.isEmpty && decide (x.kind = r.kind) && allP (RR (dFun head) :: List.replicate l.length (RR 101)) x.kids) = (x.name.isEmpty && (RR (dFun head) y && l.all (RR 101))) := by
  rw [hrk, hkd, hkids, allP, allP_rep]
  simp
 rw [hv] at HP
 generalize (x.name.isEmpty && (RR (dFun head) y && l.all (RR 101))) = B at *
 obtain ⟨m, hmm⟩ : ∃ m, m = x.kids.length := ⟨_, rfl⟩
 rw [← hmm] at HA HP
 have p0 : (0 : Int) < (m : Int) := by omega
 have HB := Lib.hid hb0
 have HX := Lib.hid (And.intro hx0 (And.intro hi0 (And.intro ho0 hsz)))
 obtain ⟨-, e0, e1, e2, e3, e4, e5⟩ := box_keep HX.out.1 (Below.refl _ _)
 obtain ⟨u6, _, v6⟩ := cell1 HX.out.2.1
 obtain ⟨u7, _, v7⟩ := cell1 HX.out.2.2.1
 have q28 : (r.kind == 28) = false := by simp [hrk]
 clear hv hrk hkd hk hm hc hG hm0 hG0 h10 h1 hFV hkids hlen hmm hb0 hx0 hi0 ho0 hsz
 unfold RN.val at HA HP ⊢
 unfold boxC at hW0
 go_enter Tryz.func115, Tryz.ntmps115
 go_wp2_with (first | (go_at_call 55; go_must (refine HA.out.mono ?_); rintro e wA ⟨⟨g, rfl, hg, hrow⟩, hbA⟩; obtain ⟨c0, c1, c2⟩ := row_first p0 hrow; obtain ⟨W2, hW2⟩ : ∃ W2, wA.setCell ⟨g, 0, none⟩ (.func (.func 136) #[] #[.pointer (some ⟨w.heap.size + 1 + 1, 0, none⟩)]) = W2 := ⟨_, rfl⟩; have hp := HP.out wA W2 g hbA hg hrow hW2; have HPP := Lib.hid hp.2; have HBW := Lib.hid hp.1; clear e0 e1 e2 e3 e4 e5 u6 v6 u7 v7 hg hrow; obtain ⟨-, e0, e1, e2, e3, e4, e5⟩ := box_keep HX.out.1 hp.1; clear hp) | (go_at_call 83; go_must (refine HPP.out.mono ?_); rintro e wB ⟨rfl, hbB⟩; have HBX := Lib.hid (below_then HB.out (below_then HBW.out hbB)); clear e0 e1 e2 e3 e4 e5; obtain ⟨-, e0, e1, e2, e3, e4, e5⟩ := box_keep HX.out.1 (below_then HBW.out hbB)))
 all_goals go_ret
 all_goals exact ⟨ret_bool (by simp [*]), HBX.out⟩
theorem one9 (y : Tree) : anyP [RR 7, farV] y = RR 9 y := by
 obtain ⟨k, f, e, a, n, l⟩ := y
 show (isR nameV tokT (.mk k f e a n l) 7 || ((nameV n && decide (k = 9) && allP [fun t => isR nameV tokT t 17] l) || false)) = isR nameV tokT (.mk k f e a n l) 9
 rw [isR_9, Bool.or_false, Bool.and_comm (nameV n)]
def own2 : List Value := [.func (.func 82) #[] #[], .func (.func 85) #[] #[]]
theorem begun_one {W0 wC wD W : World} {g m : Nat} {lb lk : Array Value} {y : Tree} {l : List Tree} (hG0 : LexG W0) (hbC : Below W0.heap.size W0 wC) (hge : W0.heap.size ≤ g) (hm : m = l.length + 1)
  (hrow : wC.heap[g]? = some (.cells (List.replicate m (.func (.func 137) #[] lk)).toArray 64 (0, 0))) (hbD : Below (wC.alloc (.cells own2.toArray 64)).heap.size (wC.alloc (.cells own2.toArray 64)) wD)
  (hv : OneV wD (.func (.func 79) #[] lb) (some ⟨wC.heap.size, 0, none⟩) 2 2) (hW : wD.setCell ⟨g, 0, none⟩ (.func (.func 79) #[] lb) = W) (hy : costT y ≤ 3000) (hz : Below W0.heap.size W0 W → ∀ z ∈ l, SortT (.func (.func 137) #[] lk) (RR 19) W z) :
  Below W0.heap.size W0 W ∧ SortsAt W (some ⟨g, 0, none⟩) m (RR 9 :: List.replicate l.length (RR 19)) (y :: l) := by
 have hD : Below W0.heap.size W0 wD := below_then (bel_alloc hbC) hbD
 have hbW : Below W0.heap.size W0 W := by rw [← hW]; exact hD.setCell (p := ⟨g, 0, none⟩) hge _
 have hrD := nb_below (nb_alloc (o' := .cells own2.toArray 64) hrow) hbD
 have h2 := nb_below (heap_alloc_new wC (.cells own2.toArray 64)) hbD
 have hgC : g < wC.heap.size := (Array.getElem?_eq_some_iff.1 hrow).1
 refine ⟨hbW, SortsAt.first hrD hm hW ?_ (hz hbW)⟩
 rw [← (funext one9 : anyP [RR 7, farV] = RR 9)]
 refine aOneV (A := some ⟨wC.heap.size, 0, none⟩) (n := 2) (c := 2) ?_ (by omega) (OneAt.lit (vs := own2) ?_ ⟨fun x hx => ?_, fun x hx => ?_, trivial⟩)
 · obtain ⟨bx, e, hbx⟩ := hv
   refine ⟨bx, e, ?_⟩
   rw [← hW, heap_setCell_other _ _ _ _ (fun hc => ?_)]
   · exact hbx
   · simp only at hc
     subst hc
     rw [hrD] at hbx
     simp only [Option.some.injEq, Obj.cells.injEq] at hbx
     exact absurd hbx.2.1 (by decide)
 · rw [← hW, heap_setCell_other _ _ _ _ (by simp only; omega)]
   exact h2
 · rw [List.mem_singleton.1 hx]
   exact (okOwn y).sort (fun args w => by rfl) (hG0.below hbW) hy
 · rw [List.mem_singleton.1 hx]
   exact (okFar y).sort (fun args w => by rfl) (hG0.below hbW) hy
theorem aBegun28 (x : Tree) (y : Tree) (l : List Tree) (hkids : x.kids = y :: l) (r : RN) (w : World) (head : Bool) (hk : ∀ z ∈ x.kids, KeyOk z) (hkd : x.kind = 28) (b1 : Nat) (h1 : w.heap[b1]? = some (.cells #[.bool head] 4 (0, 0))) (hG : LexG w) (hm : NodeM w w.heap.size x r) (hc : costT x ≤ 3000) :
  Calls Tryz.prog 115 #[r.val, .bool head, .func (.func 110) #[] #[], .func (.func 111) #[] #[.pointer (some ⟨b1, 0, none⟩)]] w fun e w' => e = .returned (.bool ((x.name.isEmpty && (RR 9 y && l.all (RR 19))) && !head)) ∧ Below w.heap.size w w' := by
 obtain ⟨W0, hW0, hb0, hsz, hx0, hi0, ho0⟩ := begun_world w r (.func (.func 110) #[] #[]) (.func (.func 111) #[] #[.pointer (some ⟨b1, 0, none⟩)])
 have hm0 := hm.after (Nat.le_refl _) hb0
 have hG0 := hG.below hb0
 have hKV : KV W0 #[.pointer (some ⟨w.heap.size + 1, 0, none⟩)] := ⟨_, rfl, hi0⟩
 have hlen : x.kids.length = l.length + 1 := by rw [hkids]; rfl
 have hrk : r.kind = 28 := by rw [hm.kind]; exact hkd
 have HA := Lib.hid (aAll x r W0 hm0 110 #[] hc)
 have HA2 := Lib.hid (fun W (hb : Below W0.heap.size W0 W) => aAll x r W (hm0.after (Nat.le_refl _) hb) 137 #[.pointer (some ⟨w.heap.size + 1, 0, none⟩)] hc)
 have HP := Lib.hid (fun (wC wD W : World) (g : Nat) (lb : Array Value) (hbC : Below W0.heap.size W0 wC) (hge : W0.heap.size ≤ g) (hrow : wC.heap[g]? = some (.cells (List.replicate x.kids.length (.func (.func 137) #[] #[.pointer (some ⟨w.heap.size + 1, 0, none⟩)])).toArray 64 (0, 0)))
   (hbD : Below (wC.alloc (.cells own2.toArray 64)).heap.size (wC.alloc (.cells own2.toArray 64)) wD) (hv : OneV wD (.func (.func 79) #[] lb) (some ⟨wC.heap.size, 0, none⟩) 2 2) (hW : wD.setCell ⟨g, 0, none⟩ (.func (.func 79) #[] lb) = W) =>
  have h := begun_one hG0 hbC hge hlen hrow hbD hv hW (kid_costT hc (show y ∈ x.kids by rw [hkids]; simp)) (fun hb z hz => (hKV.later hb).sort (hG0.below hb) (hk z (by rw [hkids]; simp [hz])) (kid_costT hc (by rw [hkids]; simp [hz])))
  And.intro h.1 (aPlain x r W (hm0.after (Nat.le_refl _) h.1) r.kind (some ⟨g, 0, none⟩) x.kids.length x.kids.length (RR 9 :: List.replicate l.length (RR 19)) (by have := h.2; rwa [← hkids] at this) hc))
 have hv : (x.name.isEmpty && decide (x.kind = r.kind) && allP (RR 9 :: List.replicate l.length (RR 19)) x.kids) = (x.name.isEmpty && (RR 9 y && l.all (RR 19))) := by
  rw [hrk, hkd, hkids, allP, allP_rep]
  simp
 rw [hv] at HP
 generalize (x.name.isEmpty && (RR 9 y && l.all (RR 19))) = B at *
 obtain ⟨m, hmm⟩ : ∃ m, m = x.kids.length := ⟨_, rfl⟩
 rw [← hmm] at HA HA2 HP
 have p0 : (0 : Int) < (m : Int) := by omega
 have HB := Lib.hid hb0
 have HX := Lib.hid (And.intro hx0 (And.intro hi0 (And.intro ho0 hsz)))
 obtain ⟨-, e0, e1, e2, e3, e4, e5⟩ := box_keep HX.out.1 (Below.refl _ _)
 obtain ⟨u6, _, v6⟩ := cell1 HX.out.2.1
 have q28 : (r.kind == 28) = true := by simp [hrk]
 clear hv hrk hkd hk hm hc hG hm0 hG0 h1 hKV hkids hlen hmm hb0 hx0 hi0 ho0 hsz
 unfold RN.val at HA HA2 HP ⊢
 unfold boxC at hW0
 unfold own2 at HP
 go_enter Tryz.func115, Tryz.ntmps115
 go_wp2_with (first | (go_at_call 55; have hq := HBW.out; go_must (refine (HA2.out _ hq).mono ?_); clear hq; rintro e wC ⟨⟨g2, rfl, hg2, hrow2⟩, hbC⟩; have HC := Lib.hid (And.intro (Nat.le_trans HBW.out.size hg2) (And.intro hrow2 (below_then HBW.out hbC))); clear hrow2 hg2 hbC hW2 c0 c1 c2) | (go_at_call 55; go_must (refine HA.out.mono ?_); rintro e wA ⟨⟨g, rfl, hg, hrow⟩, hbA⟩; obtain ⟨c0, c1, c2⟩ := row_first p0 hrow; obtain ⟨W2, hW2⟩ : ∃ W2, wA.setCell ⟨g, 0, none⟩ (.func (.func 136) #[] #[.pointer (some ⟨w.heap.size + 1 + 1, 0, none⟩)]) = W2 := ⟨_, rfl⟩; have hp : Below W0.heap.size W0 W2 := (by rw [← hW2]; exact hbA.setCell (p := ⟨g, 0, none⟩) hg _); have HBW := Lib.hid hp; clear e0 e1 e2 e3 e4 e5 u6 v6 hg hrow; obtain ⟨-, e0, e1, e2, e3, e4, e5⟩ := box_keep HX.out.1 hp; clear hp) | (go_at_call 67; go_must (refine (aOne _ _ _ _).mono ?_); rintro e wD ⟨⟨lb, rfl, hone⟩, hbD⟩; obtain ⟨c0, c1, c2⟩ := row_first p0 (nb_below (nb_alloc (o' := .cells #[.func (.func 82) #[] #[], .func (.func 85) #[] #[]] 64) HC.out.2.1) hbD); obtain ⟨W4, hW4⟩ : ∃ W4, wD.setCell ⟨g2, 0, none⟩ (.func (.func 79) #[] lb) = W4 := ⟨_, rfl⟩; have hp := HP.out wC wD W4 g2 lb HC.out.2.2 HC.out.1 HC.out.2.1 hbD hone hW4; have HPP := Lib.hid hp.2; have HBX := Lib.hid hp.1; clear e0 e1 e2 e3 e4 e5 hone hbD; obtain ⟨-, e0, e1, e2, e3, e4, e5⟩ := box_keep HX.out.1 hp.1; clear hp) | (go_at_call 83; go_must (refine HPP.out.mono ?_); rintro e wB ⟨rfl, hbB⟩; have HBZ := Lib.hid (below_then HB.out (below_then HBX.out hbB)); clear e0 e1 e2 e3 e4 e5; obtain ⟨-, e0, e1, e2, e3, e4, e5⟩ := box_keep HX.out.1 (below_then HBX.out hbB)))
 all_goals go_ret
 all_goals exact ⟨ret_bool (by simp [*]), HBZ.out⟩
theorem NodeM.count {w : World} {B : Nat} {x : Tree} {r : RN} (h : NodeM w B x r) : r.n = x.kids.length := by
 obtain ⟨k, f, e, a, n, l⟩ := x
 obtain ⟨A', cap, rfl, hk⟩ := h.open2
 rfl
theorem okE27n (x : Tree) (hkids : x.kids = []) (hkd : x.kind = 27) : EOk x := by
 rintro k c head rfl h1c h7c w lb ⟨b0, b1, b2, b3, rfl, g0, g1, g2, g3⟩ hG r hm hc
 have HE0 := Lib.hid (And.intro (nb_alloc (o' := boxC r) g0) (And.intro (nb_alloc (o' := boxC r) g1) (And.intro (nb_alloc (o' := boxC r) g2) (nb_alloc (o' := boxC r) g3))))
 have hG0 := hG.alloc (boxC r)
 have hm0 := hm.boxed (Nat.le_refl _) (boxC r)
 have HX := Lib.hid (heap_alloc_new w (boxC r))
 have HB := Lib.hid ((Below.refl w.heap.size w).alloc (Nat.le_refl _) (boxC r))
 obtain ⟨W0, hW0⟩ : ∃ W0, w.alloc (boxC r) = W0 := ⟨_, rfl⟩
 rw [hW0] at hG0 hm0 HX HB HE0
 have hrk : r.kind = 27 := by rw [hm.kind]; exact hkd
 have hname : r.name.data.toList = x.name := by rw [hm.name, toBA_list]
 obtain ⟨-, e0, e1, e2, e3, e4, e5, f0, f1, f2, f3⟩ := box_keep4 HX.out HE0.out.1 HE0.out.2.1 HE0.out.2.2.1 HE0.out.2.2.2 (Below.refl _ _)
 have hn := hm.count
 have hv : RR (eC c head) x = false := by
  obtain ⟨k, f, e, a, n, l⟩ := x
  change k = 27 at hkd
  change l = [] at hkids
  subst hkd
  subst hkids
  show isR nameV tokT _ (eC c head) = false
  rw [isE nameV tokT _ _ _ _ _ _ c head h1c h7c]
  simp [eKind]
 generalize RR (eC c head) x = B at *
 subst hv
 have n1 : ¬ (0 : Int) < (r.n : Int) := by rw [hn, hkids]; simp
 have n2 : decide ((0 : Int) < (r.n : Int)) = false := decide_eq_false n1
 have q31 : (r.kind == 31) = false := by simp [hrk]
 have q30 : (r.kind == 30) = false := by simp [hrk]
 have q21 : (r.kind == 21) = false := by simp [hrk]
 have q22 : (r.kind == 22) = false := by simp [hrk]
 have q23 : (r.kind == 23) = false := by simp [hrk]
 have q24 : (r.kind == 24) = false := by simp [hrk]
 have q25 : (r.kind == 25) = false := by simp [hrk]
 have q33 : (r.kind == 33) = false := by simp [hrk]
 have q26 : (r.kind == 26) = false := by simp [hrk]
 have q32 : (r.kind == 32) = false := by simp [hrk]
 have q27 : (r.kind == 27) = true := by simp [hrk]
 have q28 : (r.kind == 28) = false := by simp [hrk]
 clear hkids hn hkd hrk hG hm hc hG0 hm0 g0 g1 g2 g3 hname
 show Calls Tryz.prog 112 #[r.val, .pointer (some ⟨b0, 0, none⟩), .pointer (some ⟨b1, 0, none⟩), .pointer (some ⟨b2, 0, none⟩), .pointer (some ⟨b3, 0, none⟩)] w _
 unfold RN.val
 go_enter Tryz.func112, Tryz.ntmps112
 go_wp2_with fail
 go_ret
 rw [show w.alloc (.cells #[.int .i64 r.kind, .int .i64 r.fr, .int .i64 r.en, .int .i64 r.at_, .string r.name, .slice r.A r.n r.cap] 24) = W0 from hW0]
 exact ⟨rfl, HB.out⟩
theorem okE27c (x : Tree) (y : Tree) (l : List Tree) (hkids : x.kids = y :: l) (hk : ∀ z ∈ x.kids, EOk z) (hkd : x.kind = 27) : EOk x := by
 rintro k c head rfl h1c h7c w lb ⟨b0, b1, b2, b3, rfl, g0, g1, g2, g3⟩ hG r hm hc
 have HE0 := Lib.hid (And.intro (nb_alloc (o' := boxC r) g0) (And.intro (nb_alloc (o' := boxC r) g1) (And.intro (nb_alloc (o' := boxC r) g2) (nb_alloc (o' := boxC r) g3))))
 have hG0 := hG.alloc (boxC r)
 have hm0 := hm.boxed (Nat.le_refl _) (boxC r)
 have HX := Lib.hid (heap_alloc_new w (boxC r))
 have HB := Lib.hid ((Below.refl w.heap.size w).alloc (Nat.le_refl _) (boxC r))
 obtain ⟨W0, hW0⟩ : ∃ W0, w.alloc (boxC r) = W0 := ⟨_, rfl⟩
 rw [hW0] at hG0 hm0 HX HB HE0
 have hrk : r.kind = 27 := by rw [hm.kind]; exact hkd
 have hname : r.name.data.toList = x.name := by rw [hm.name, toBA_list]
 obtain ⟨-, e0, e1, e2, e3, e4, e5, f0, f1, f2, f3⟩ := box_keep4 HX.out HE0.out.1 HE0.out.2.1 HE0.out.2.2.1 HE0.out.2.2.2 (Below.refl _ _)
 have hn := hm.count
 have hv : RR (eC c head) x = (x.name.isEmpty && (RR (dFun head) y && l.all (RR 101))) := by
  obtain ⟨k, f, e, a, n, l'⟩ := x
  change k = 27 at hkd
  change l' = y :: l at hkids
  subst hkd
  subst hkids
  show isR nameV tokT _ (eC c head) = (n.isEmpty && (RR (dFun head) y && l.all (RR 101)))
  rw [isE nameV tokT _ _ _ _ _ _ c head h1c h7c]
  cases head <;> simp [eKind, dFun, RR]
 have HT := Lib.hid (aBegun27 x y l hkids r W0 head hk hkd b1 HE0.out.2.1 hG0 hm0 hc)
 rw [← hv] at HT
 generalize RR (eC c head) x = B at *
 have n1 : (0 : Int) < (r.n : Int) := by rw [hn, hkids]; simp
 have n2 : decide ((0 : Int) < (r.n : Int)) = true := decide_eq_true n1
 obtain ⟨u0, _, v0⟩ := cell1 g0
 obtain ⟨u1, _, v1⟩ := cell1 g1
 obtain ⟨u2, _, v2⟩ := cell1 g2
 obtain ⟨u3, _, v3⟩ := cell1 g3
 have q31 : (r.kind == 31) = false := by simp [hrk]
 have q30 : (r.kind == 30) = false := by simp [hrk]
 have q21 : (r.kind == 21) = false := by simp [hrk]
 have q22 : (r.kind == 22) = false := by simp [hrk]
 have q23 : (r.kind == 23) = false := by simp [hrk]
 have q24 : (r.kind == 24) = false := by simp [hrk]
 have q25 : (r.kind == 25) = false := by simp [hrk]
 have q33 : (r.kind == 33) = false := by simp [hrk]
 have q26 : (r.kind == 26) = false := by simp [hrk]
 have q32 : (r.kind == 32) = false := by simp [hrk]
 have q27 : (r.kind == 27) = true := by simp [hrk]
 have q28 : (r.kind == 28) = false := by simp [hrk]
 clear hkids hn hv hk hkd hrk hG hm hc hG0 hm0 g0 g1 g2 g3 hname
 show Calls Tryz.prog 112 #[r.val, .pointer (some ⟨b0, 0, none⟩), .pointer (some ⟨b1, 0, none⟩), .pointer (some ⟨b2, 0, none⟩), .pointer (some ⟨b3, 0, none⟩)] w _
 unfold RN.val at HT ⊢
 go_enter Tryz.func112, Tryz.ntmps112
 go_wp2_with (go_at_call 115; go_must (rw [show w.alloc (.cells #[.int .i64 r.kind, .int .i64 r.fr, .int .i64 r.en, .int .i64 r.at_, .string r.name, .slice r.A r.n r.cap] 24) = W0 from hW0]; refine HT.out.mono ?_); rintro e wA ⟨rfl, hbA⟩)
 go_ret
 exact ⟨ret_bool (by simp [*]), below_then HB.out hbA⟩
theorem okE28n (x : Tree) (hkids : x.kids = []) (hkd : x.kind = 28) : EOk x := by
 rintro k c head rfl h1c h7c w lb ⟨b0, b1, b2, b3, rfl, g0, g1, g2, g3⟩ hG r hm hc
 have HE0 := Lib.hid (And.intro (nb_alloc (o' := boxC r) g0) (And.intro (nb_alloc (o' := boxC r) g1) (And.intro (nb_alloc (o' := boxC r) g2) (nb_alloc (o' := boxC r) g3))))
 have hG0 := hG.alloc (boxC r)
 have hm0 := hm.boxed (Nat.le_refl _) (boxC r)
 have HX := Lib.hid (heap_alloc_new w (boxC r))
 have HB := Lib.hid ((Below.refl w.heap.size w).alloc (Nat.le_refl _) (boxC r))
 obtain ⟨W0, hW0⟩ : ∃ W0, w.alloc (boxC r) = W0 := ⟨_, rfl⟩
 rw [hW0] at hG0 hm0 HX HB HE0
 have hrk : r.kind = 28 := by rw [hm.kind]; exact hkd
 have hname : r.name.data.toList = x.name := by rw [hm.name, toBA_list]
 obtain ⟨-, e0, e1, e2, e3, e4, e5, f0, f1, f2, f3⟩ := box_keep4 HX.out HE0.out.1 HE0.out.2.1 HE0.out.2.2.1 HE0.out.2.2.2 (Below.refl _ _)
 have hn := hm.count
 have hv : RR (eC c head) x = false := by
  obtain ⟨k, f, e, a, n, l⟩ := x
  change k = 28 at hkd
  change l = [] at hkids
  subst hkd
  subst hkids
  show isR nameV tokT _ (eC c head) = false
  rw [isE nameV tokT _ _ _ _ _ _ c head h1c h7c]
  simp [eKind]
 generalize RR (eC c head) x = B at *
 subst hv
 have n1 : ¬ (0 : Int) < (r.n : Int) := by rw [hn, hkids]; simp
 have n2 : decide ((0 : Int) < (r.n : Int)) = false := decide_eq_false n1
 have q31 : (r.kind == 31) = false := by simp [hrk]
 have q30 : (r.kind == 30) = false := by simp [hrk]
 have q21 : (r.kind == 21) = false := by simp [hrk]
 have q22 : (r.kind == 22) = false := by simp [hrk]
 have q23 : (r.kind == 23) = false := by simp [hrk]
 have q24 : (r.kind == 24) = false := by simp [hrk]
 have q25 : (r.kind == 25) = false := by simp [hrk]
 have q33 : (r.kind == 33) = false := by simp [hrk]
 have q26 : (r.kind == 26) = false := by simp [hrk]
 have q32 : (r.kind == 32) = false := by simp [hrk]
 have q27 : (r.kind == 27) = false := by simp [hrk]
 have q28 : (r.kind == 28) = true := by simp [hrk]
 clear hkids hn hkd hrk hG hm hc hG0 hm0 g0 g1 g2 g3 hname
 show Calls Tryz.prog 112 #[r.val, .pointer (some ⟨b0, 0, none⟩), .pointer (some ⟨b1, 0, none⟩), .pointer (some ⟨b2, 0, none⟩), .pointer (some ⟨b3, 0, none⟩)] w _
 unfold RN.val
 go_enter Tryz.func112, Tryz.ntmps112
 go_wp2_with fail
 go_ret
 rw [show w.alloc (.cells #[.int .i64 r.kind, .int .i64 r.fr, .int .i64 r.en, .int .i64 r.at_, .string r.name, .slice r.A r.n r.cap] 24) = W0 from hW0]
 exact ⟨rfl, HB.out⟩
theorem okE28c (x : Tree) (y : Tree) (l : List Tree) (hkids : x.kids = y :: l) (hk : ∀ z ∈ x.kids, KeyOk z) (hkd : x.kind = 28) : EOk x := by
 rintro k c head rfl h1c h7c w lb ⟨b0, b1, b2, b3, rfl, g0, g1, g2, g3⟩ hG r hm hc
 have HE0 := Lib.hid (And.intro (nb_alloc (o' := boxC r) g0) (And.intro (nb_alloc (o' := boxC r) g1) (And.intro (nb_alloc (o' := boxC r) g2) (nb_alloc (o' := boxC r) g3))))
 have hG0 := hG.alloc (boxC r)
 have hm0 := hm.boxed (Nat.le_refl _) (boxC r)
 have HX := Lib.hid (heap_alloc_new w (boxC r))
 have HB := Lib.hid ((Below.refl w.heap.size w).alloc (Nat.le_refl _) (boxC r))
 obtain ⟨W0, hW0⟩ : ∃ W0, w.alloc (boxC r) = W0 := ⟨_, rfl⟩
 rw [hW0] at hG0 hm0 HX HB HE0
 have hrk : r.kind = 28 := by rw [hm.kind]; exact hkd
 have hname : r.name.data.toList = x.name := by rw [hm.name, toBA_list]
 obtain ⟨-, e0, e1, e2, e3, e4, e5, f0, f1, f2, f3⟩ := box_keep4 HX.out HE0.out.1 HE0.out.2.1 HE0.out.2.2.1 HE0.out.2.2.2 (Below.refl _ _)
 have hn := hm.count
 have hv : RR (eC c head) x = ((x.name.isEmpty && (RR 9 y && l.all (RR 19))) && !head) := by
  obtain ⟨k, f, e, a, n, l'⟩ := x
  change k = 28 at hkd
  change l' = y :: l at hkids
  subst hkd
  subst hkids
  show isR nameV tokT _ (eC c head) = ((n.isEmpty && (RR 9 y && l.all (RR 19))) && !head)
  rw [isE nameV tokT _ _ _ _ _ _ c head h1c h7c]
  cases head <;> simp [eKind, dFun, RR]
 have HT := Lib.hid (aBegun28 x y l hkids r W0 head hk hkd b1 HE0.out.2.1 hG0 hm0 hc)
 rw [← hv] at HT
 generalize RR (eC c head) x = B at *
 have n1 : (0 : Int) < (r.n : Int) := by rw [hn, hkids]; simp
 have n2 : decide ((0 : Int) < (r.n : Int)) = true := decide_eq_true n1
 obtain ⟨u0, _, v0⟩ := cell1 g0
 obtain ⟨u1, _, v1⟩ := cell1 g1
 obtain ⟨u2, _, v2⟩ := cell1 g2
 obtain ⟨u3, _, v3⟩ := cell1 g3
 have q31 : (r.kind == 31) = false := by simp [hrk]
 have q30 : (r.kind == 30) = false := by simp [hrk]
 have q21 : (r.kind == 21) = false := by simp [hrk]
 have q22 : (r.kind == 22) = false := by simp [hrk]
 have q23 : (r.kind == 23) = false := by simp [hrk]
 have q24 : (r.kind == 24) = false := by simp [hrk]
 have q25 : (r.kind == 25) = false := by simp [hrk]
 have q33 : (r.kind == 33) = false := by simp [hrk]
 have q26 : (r.kind == 26) = false := by simp [hrk]
 have q32 : (r.kind == 32) = false := by simp [hrk]
 have q27 : (r.kind == 27) = false := by simp [hrk]
 have q28 : (r.kind == 28) = true := by simp [hrk]
 clear hkids hn hv hk hkd hrk hG hm hc hG0 hm0 g0 g1 g2 g3 hname
 show Calls Tryz.prog 112 #[r.val, .pointer (some ⟨b0, 0, none⟩), .pointer (some ⟨b1, 0, none⟩), .pointer (some ⟨b2, 0, none⟩), .pointer (some ⟨b3, 0, none⟩)] w _
 unfold RN.val at HT ⊢
 go_enter Tryz.func112, Tryz.ntmps112
 go_wp2_with (go_at_call 115; go_must (rw [show w.alloc (.cells #[.int .i64 r.kind, .int .i64 r.fr, .int .i64 r.en, .int .i64 r.at_, .string r.name, .slice r.A r.n r.cap] 24) = W0 from hW0]; refine HT.out.mono ?_); rintro e wA ⟨rfl, hbA⟩)
 go_ret
 exact ⟨ret_bool (by simp [*]), below_then HB.out hbA⟩
theorem okE27 (x : Tree) (hk : ∀ y ∈ x.kids, EOk y) (hkd : x.kind = 27) : EOk x := by
 cases h : x.kids with
 | nil => exact okE27n x h hkd
 | cons y l => exact okE27c x y l h hk hkd
theorem okE28 (x : Tree) (hk : ∀ y ∈ x.kids, KeyOk y) (hkd : x.kind = 28) : EOk x := by
 cases h : x.kids with
 | nil => exact okE28n x h hkd
 | cons y l => exact okE28c x y l h hk hkd
theorem okE (x : Tree) (hk : ∀ y ∈ x.kids, EOk y) (hkk : ∀ y ∈ x.kids, KeyOk y) : EOk x := by
 by_cases h31 : x.kind = 31
 · exact okE31 x hk h31
 by_cases h30 : x.kind = 30
 · exact okE30 x hk h30
 by_cases h21 : x.kind = 21
 · exact okE21 x  h21
 by_cases h22 : x.kind = 22
 · exact okE22 x  h22
 by_cases h23 : x.kind = 23
 · exact okE23 x  h23
 by_cases h24 : x.kind = 24
 · exact okE24 x  h24
 by_cases h25 : x.kind = 25
 · exact okE25 x  h25
 by_cases h33 : x.kind = 33
 · exact okE33 x hk h33
 by_cases h26 : x.kind = 26
 · exact okE26 x hk h26
 by_cases h32 : x.kind = 32
 · exact okE32 x hk h32
 by_cases h27 : x.kind = 27
 · exact okE27 x hk h27
 by_cases h28 : x.kind = 28
 · exact okE28 x hkk h28
 exact okEno x h31 h30 h21 h22 h23 h24 h25 h33 h26 h32 h27 h28
end Go.Proofs.YtacdfjlncfidgaaGreatDoor
