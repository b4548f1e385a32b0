/- A part of what the claim leans on. -/
import Derived.Test.YtacdfjlncfidgaaGreatDoorQS
import Derived.Test.YtacdfjlncfidgaaGreatDoorTK
namespace Go.Proofs.YtacdfjlncfidgaaGreatDoor
open Go.RowKit
set_option linter.unusedVariables false
set_option linter.unusedSimpArgs false
set_option maxRecDepth 100000
set_option maxHeartbeats 6400000
theorem qsa (x:Tree) (hk:∀ y∈x.kids,FnP 72 (RR 10) y):FnP 56 (RR 2) x:=by
 intro r w hG hm hc
 have hG0:=hG.alloc (qd r)
 have hm0:=hm.boxed zxn (qd r)
 have HX:=zxi (heap_alloc_new w (qd r))
 have HB:=zxi ((Below.refl w.heap.size w).alloc zxn (qd r))
 obtain⟨W0,hW0⟩:∃ W0,w.alloc (qd r)=W0:=⟨_,rfl⟩
 rw[hW0] at hG0 hm0 HX HB
 have HP:=zxi (fun W (hb:Below W0.heap.size W0 W) k A n c Ps (hS:SortsAt W A n Ps x.kids)=>Qj x r W (hm0.after zxn hb) k A n c Ps hS hc)
 have HQ:=zxi (fun W (hb:Below W0.heap.size W0 W) k A n c Ps (hS:SortsAt W A n Ps x.kids)=>jy x r W (hm0.after zxn hb) k A n c Ps hS hc)
 have HO:=zxi (fun(w1 W:World) (lb:Array Value) (g:Nat) (vs:List Value) (Ps:List (Tree→Bool)) (c:Nat) (hone:OneV w1 (.func (.func 79) #[] lb) (some ⟨g,0,none⟩) vs.length c) (hb:Below w1.heap.size w1 W) (hn:vs.length≤1000) (hrow:W.heap[g]?=some (.cells vs.toArray 64 (0,0))) (hp:PairOk W x.kids vs Ps)=>qbp hone hb hn hrow hp)
 have H0:=zxi (fun W (hb:Below W0.heap.size W0 W) y (hy:y∈x.kids)=>FnP.sort (f:=69) (P:=RR 0) (w:=W) (QF y) (fun args w=>by rfl) (hG0.below hb) (qk hc hy))
 have H72:=zxi (fun W (hb:Below W0.heap.size W0 W) y (hy:y∈x.kids)=>FnP.sort (f:=72) (P:=RR 10) (w:=W) ((hk y hy)) (fun args w=>by rfl) (hG0.below hb) (qk hc hy))
 have H68:=zxi (fun W (hb:Below W0.heap.size W0 W) y (hy:y∈x.kids)=>FnP.sort (f:=68) (P:=RR 5) (w:=W) (qgF y) (fun args w=>by rfl) (hG0.below hb) (qk hc hy))
 have H70:=zxi (fun W (hb:Below W0.heap.size W0 W) y (hy:y∈x.kids)=>FnP.sort (f:=70) (P:=RR 6) (w:=W) (qkT y) (fun args w=>by rfl) (hG0.below hb) (qk hc hy))
 have H71:=zxi (fun W (hb:Below W0.heap.size W0 W) y (hy:y∈x.kids)=>FnP.sort (f:=71) (P:=RR 8) (w:=W) (qiC y) (fun args w=>by rfl) (hG0.below hb) (qk hc hy))
 have HA:=zxi (fun W (hb:Below W0.heap.size W0 W)=>qmy x r W (hm0.after zxn hb) 66 #[] hc)
 have H3:=zxi (fun W (hb:Below W0.heap.size W0 W) g (hg:W.heap[g]?=some (.cells (List.replicate x.kids.length (.func (.func 66) #[] #[])).toArray 64 (0,0)))=>jy x r W (hm0.after zxn hb) 3 (some ⟨g,0,none⟩) x.kids.length x.kids.length (List.replicate x.kids.length (RR 3))
  (SortsAt.rep hg (fun y hy=>(qoF y).sort (fun args w=>by rfl) (hG0.below hb) (qk hc hy))) hc)
 have hv:RR 2 x=((qc x.name&&decide (x.kind=3)&&qx (List.replicate x.kids.length (RR 3)) x.kids)||(qc x.name&&decide (x.kind=5)&&qx [Qh [RR 5,RR 0],RR 6,Qh [RR 8,RR 0],RR 10] x.kids)):=by
  obtain⟨k,f,e,a,n,l⟩:=x
  show isR qc qw (.mk k f e a n l) 2=((qc n&&decide (k=3)&&qx (List.replicate l.length (RR 3)) l)||_)
  rw[qu2,Qf,Qf,jm]
  rfl
 generalize hB:RR 2 x=B at *
 generalize hb3:(qc x.name&&decide (x.kind=3)&&qx (List.replicate x.kids.length (RR 3)) x.kids)=Bn at *
 generalize hb5:(qc x.name&&decide (x.kind=5)&&qx [Qh [RR 5,RR 0],RR 6,Qh [RR 8,RR 0],RR 10] x.kids)=Bf at *
 subst hv
 clear hG hm hc hG0 hm0 hk hb3 hB
 unfold RN.val at HQ HA H3 ⊢
 cases Bn with
 | true =>
  go_enter Tryz.func56,Tryz.ntmps56
  go_wp2_with fail
  rw[show w.alloc (.cells #[.int .i64 r.kind,.int .i64 r.fr,.int .i64 r.en,.int .i64 r.at_,.string r.name,.slice r.A r.n r.cap] 24)=W0 from hW0]
  have HKP:=zxi (fun W' (hBW:Below W0.heap.size W0 W')=>(show zS W0 w.heap.size r W' from by exact qh HX.out hBW))
  refine zHD HKP fun hHeld=>?_
  refine zTk 0 (h:=?_)
  refine zTk 1 (h:=?_)
  refine zRd 2 (h:=fun KK hKK=>?_)
  go_simp
  (refine(zb HA).mono ?_;rintro e wA ⟨⟨g,rfl,hg,hrow⟩,hbA⟩)
  (try go_wp2_with fail)
  refine zKK hKK HKP fun hHeld2=>?_;clear hKK KK hHeld;rename _=>hHeld
  refine zRd 3 (h:=fun KK hKK=>?_)
  go_simp
  (refine((zb H3) _ zxa).mono ?_;rintro e wB ⟨rfl,hbB⟩)
  (try go_wp2_with fail)
  refine zKK hKK HKP fun hHeld2=>?_;clear hKK KK hHeld;rename _=>hHeld
  refine zTk 4 (h:=?_)
  refine zTn 5 (h:=?_)
  refine zTn 6 (h:=?_)
  refine zTn 7 (h:=?_)
  refine zTn 8 (h:=?_)
  refine zTn 9 (h:=?_)
  refine zTn 10 (h:=?_)
  refine zTn 11 (h:=?_)
  refine zTk 12 (h:=?_)
  refine zTk 13 (h:=?_)
  exact qe1
 | false =>
  go_enter Tryz.func56,Tryz.ntmps56
  go_wp2_with fail
  rw[show w.alloc (.cells #[.int .i64 r.kind,.int .i64 r.fr,.int .i64 r.en,.int .i64 r.at_,.string r.name,.slice r.A r.n r.cap] 24)=W0 from hW0]
  have HKP:=zxi (fun W' (hBW:Below W0.heap.size W0 W')=>(show zS W0 w.heap.size r W' from by exact qh HX.out hBW))
  refine zHD HKP fun hHeld=>?_
  refine zTk 0 (h:=?_)
  refine zTk 1 (h:=?_)
  refine zRd 2 (h:=fun KK hKK=>?_)
  go_simp
  (refine(zb HA).mono ?_;rintro e wA ⟨⟨g,rfl,hg,hrow⟩,hbA⟩)
  (try go_wp2_with fail)
  refine zKK hKK HKP fun hHeld2=>?_;clear hKK KK hHeld;rename _=>hHeld
  refine zRd 3 (h:=fun KK hKK=>?_)
  go_simp
  (refine((zb H3) _ zxa).mono ?_;rintro e wB ⟨rfl,hbB⟩)
  (try go_wp2_with fail)
  refine zKK hKK HKP fun hHeld2=>?_;clear hKK KK hHeld;rename _=>hHeld
  refine zTk 4 (h:=?_)
  refine zTk 5 (h:=?_)
  refine wpAnyH_ready (rs:=[6,8]) (by kernel_rfl) zxs ?_
  refine AllReadyH.cons (by rfl) (fun KK hKK=>?_) (AllReadyH.cons (by rfl) (fun KK hKK=>?_) AllReadyH.nil)
  · go_simp
    refine zKK hKK HKP fun hHeld2=>?_;clear hKK KK hHeld;rename _=>hHeld
    refine wpAnyH_ready (rs:=[7,8]) (by kernel_rfl) zxs ?_
    refine AllReadyH.cons (by rfl) (fun KK hKK=>?_) (AllReadyH.cons (by rfl) (fun KK hKK=>?_) AllReadyH.nil)
    · go_simp
      (refine(qfu _ _ _ _).mono ?_;rintro e wC ⟨⟨lbC,rfl,hC⟩,hbC⟩)
      (try go_wp2_with fail)
      refine zKK hKK HKP fun hHeld2=>?_;clear hKK KK hHeld;rename _=>hHeld
      refine zRd 8 (h:=fun KK hKK=>?_)
      go_simp
      exact qwF
    · exact qrW
  · go_simp
    refine zKK hKK HKP fun hHeld2=>?_;clear hKK KK hHeld;rename _=>hHeld
    refine zRd 6 (h:=fun KK hKK=>?_)
    exact qrW
theorem qsE (x:Tree) (h:FnP 72 (RR 10) x) (hkd:x.kind=10):FnP 87 (RR 11) x:=by
 intro r w hG hm hc
 have hG0:=hG.alloc (qd r)
 have hm0:=hm.boxed zxn (qd r)
 have HX:=zxi (heap_alloc_new w (qd r))
 have HB:=zxi ((Below.refl w.heap.size w).alloc zxn (qd r))
 obtain⟨W0,hW0⟩:∃ W0,w.alloc (qd r)=W0:=⟨_,rfl⟩
 rw[hW0] at hG0 hm0 HX HB
 have hrk:r.kind=10:=by rw[hm.kind];exact hkd
 have HT:=zxi (h r W0 hG0 hm0 hc)
 have hv:RR 10 x=RR 11 x:=by
  obtain⟨k,f,e,a,n,l⟩:=x
  change k=10 at hkd
  subst hkd
  exact(quC qc qw f e a n l).symm
 rw[hv] at HT
 generalize RR 11 x=B at *
 obtain⟨-,e0,e1,e2,e3,e4,e5⟩:=qh HX.out (Below.refl _ _)
 have q11:(r.kind == 11)=false:=by simp[hrk]
 have q10:(r.kind == 10)=true:=by simp[hrk]
 have q14:(r.kind == 14)=false:=by simp[hrk]
 have q15:(r.kind == 15)=false:=by simp[hrk]
 have q16:(r.kind == 16)=false:=by simp[hrk]
 have q17:(r.kind == 17)=false:=by simp[hrk]
 have q18:(r.kind == 18)=false:=by simp[hrk]
 have q19:(r.kind == 19)=false:=by simp[hrk]
 clear hv hkd hrk h hG hm hc hG0 hm0
 unfold RN.val at HT ⊢
 unfold qd at hW0
 go_enter Tryz.func87,Tryz.ntmps87
 go_wp2_with (go_at_call 72;go_must (refine HT.out.mono ?_);rintro e wA ⟨rfl,hbA⟩)
 exact qf7
theorem qsr (x:Tree) (h:FnP 97 (RR 12) x) (hkd:x.kind=14):FnP 87 (RR 11) x:=by
 intro r w hG hm hc
 have hG0:=hG.alloc (qd r)
 have hm0:=hm.boxed zxn (qd r)
 have HX:=zxi (heap_alloc_new w (qd r))
 have HB:=zxi ((Below.refl w.heap.size w).alloc zxn (qd r))
 obtain⟨W0,hW0⟩:∃ W0,w.alloc (qd r)=W0:=⟨_,rfl⟩
 rw[hW0] at hG0 hm0 HX HB
 have hrk:r.kind=14:=by rw[hm.kind];exact hkd
 have HT:=zxi (h r W0 hG0 hm0 hc)
 have hv:RR 12 x=RR 11 x:=by
  obtain⟨k,f,e,a,n,l⟩:=x
  change k=14 at hkd
  subst hkd
  exact(qvu qc qw f e a n l).symm
 rw[hv] at HT
 generalize RR 11 x=B at *
 obtain⟨-,e0,e1,e2,e3,e4,e5⟩:=qh HX.out (Below.refl _ _)
 have q11:(r.kind == 11)=false:=by simp[hrk]
 have q10:(r.kind == 10)=false:=by simp[hrk]
 have q14:(r.kind == 14)=true:=by simp[hrk]
 have q15:(r.kind == 15)=false:=by simp[hrk]
 have q16:(r.kind == 16)=false:=by simp[hrk]
 have q17:(r.kind == 17)=false:=by simp[hrk]
 have q18:(r.kind == 18)=false:=by simp[hrk]
 have q19:(r.kind == 19)=false:=by simp[hrk]
 clear hv hkd hrk h hG hm hc hG0 hm0
 unfold RN.val at HT ⊢
 unfold qd at hW0
 go_enter Tryz.func87,Tryz.ntmps87
 go_wp2_with (go_at_call 97;go_must (refine HT.out.mono ?_);rintro e wA ⟨rfl,hbA⟩)
 exact qf7
theorem qp7 (x:Tree) (h:FnP 98 (RR 13) x) (hkd:x.kind=15):FnP 87 (RR 11) x:=by
 intro r w hG hm hc
 have hG0:=hG.alloc (qd r)
 have hm0:=hm.boxed zxn (qd r)
 have HX:=zxi (heap_alloc_new w (qd r))
 have HB:=zxi ((Below.refl w.heap.size w).alloc zxn (qd r))
 obtain⟨W0,hW0⟩:∃ W0,w.alloc (qd r)=W0:=⟨_,rfl⟩
 rw[hW0] at hG0 hm0 HX HB
 have hrk:r.kind=15:=by rw[hm.kind];exact hkd
 have HT:=zxi (h r W0 hG0 hm0 hc)
 have hv:RR 13 x=RR 11 x:=by
  obtain⟨k,f,e,a,n,l⟩:=x
  change k=15 at hkd
  subst hkd
  exact(qvp qc qw f e a n l).symm
 rw[hv] at HT
 generalize RR 11 x=B at *
 obtain⟨-,e0,e1,e2,e3,e4,e5⟩:=qh HX.out (Below.refl _ _)
 have q11:(r.kind == 11)=false:=by simp[hrk]
 have q10:(r.kind == 10)=false:=by simp[hrk]
 have q14:(r.kind == 14)=false:=by simp[hrk]
 have q15:(r.kind == 15)=true:=by simp[hrk]
 have q16:(r.kind == 16)=false:=by simp[hrk]
 have q17:(r.kind == 17)=false:=by simp[hrk]
 have q18:(r.kind == 18)=false:=by simp[hrk]
 have q19:(r.kind == 19)=false:=by simp[hrk]
 clear hv hkd hrk h hG hm hc hG0 hm0
 unfold RN.val at HT ⊢
 unfold qd at hW0
 go_enter Tryz.func87,Tryz.ntmps87
 go_wp2_with (go_at_call 98;go_must (refine HT.out.mono ?_);rintro e wA ⟨rfl,hbA⟩)
 exact qf7
theorem qsc (x:Tree) (hk:∀ y∈x.kids,FnP 98 (RR 13) y) (hkd:x.kind=16):FnP 87 (RR 11) x:=by
 intro r w hG hm hc
 have hG0:=hG.alloc (qd r)
 have hm0:=hm.boxed zxn (qd r)
 have HX:=zxi (heap_alloc_new w (qd r))
 have HB:=zxi ((Below.refl w.heap.size w).alloc zxn (qd r))
 obtain⟨W0,hW0⟩:∃ W0,w.alloc (qd r)=W0:=⟨_,rfl⟩
 rw[hW0] at hG0 hm0 HX HB
 have hrk:r.kind=16:=by rw[hm.kind];exact hkd
 have HP:=zxi (fun W (hb:Below W0.heap.size W0 W) k A n c Ps (hS:SortsAt W A n Ps x.kids)=>Qj x r W (hm0.after zxn hb) k A n c Ps hS hc)
 have HQ:=zxi (fun W (hb:Below W0.heap.size W0 W) k A n c Ps (hS:SortsAt W A n Ps x.kids)=>jy x r W (hm0.after zxn hb) k A n c Ps hS hc)
 have H98:=zxi (fun W (hb:Below W0.heap.size W0 W) y (hy:y∈x.kids)=>FnP.sort (f:=98) (P:=RR 13) (w:=W) ((hk y hy)) (fun args w=>by rfl) (hG0.below hb) (qk hc hy))
 have hv:(qc x.name&&decide (x.kind=16)&&qx [RR 13] x.kids)=RR 11 x:=by
  obtain⟨k,f,e,a,n,l⟩:=x
  change k=16 at hkd
  subst hkd
  show(qc n&&decide ((16:Int)=16)&&qx [RR 13] l)=isR qc qw _ 11
  rw[quV]
  simp
 generalize hB:RR 11 x=B at *
 obtain⟨-,e0,e1,e2,e3,e4,e5⟩:=qh HX.out (Below.refl _ _)
 have q11:(r.kind == 11)=false:=by simp[hrk]
 have q10:(r.kind == 10)=false:=by simp[hrk]
 have q14:(r.kind == 14)=false:=by simp[hrk]
 have q15:(r.kind == 15)=false:=by simp[hrk]
 have q16:(r.kind == 16)=true:=by simp[hrk]
 have q17:(r.kind == 17)=false:=by simp[hrk]
 have q18:(r.kind == 18)=false:=by simp[hrk]
 have q19:(r.kind == 19)=false:=by simp[hrk]
 clear hkd hrk hk hG hm hc hG0 hm0 hB
 unfold RN.val at HQ ⊢
 unfold qd at hW0
 go_enter Tryz.func87,Tryz.ntmps87
 go_wp2_with (go_at_call 58;go_must (refine((zb HQ) _ _ _ _ [RR 13] (SortsAt.lit (vs:=[_]) (qG zxs) ⟨(zb H98),trivial⟩)).mono ?_);rintro e wA ⟨he,hbA⟩;rw[hv] at he;subst he;have HE:=zxi (qa HB.out zxq:Below w.heap.size w wA))
 go_ret
 exact⟨rfl,HE.out⟩
theorem qrQ (x:Tree) (hkd:x.kind=17):FnP 87 (RR 11) x:=by
 intro r w hG hm hc
 have hG0:=hG.alloc (qd r)
 have hm0:=hm.boxed zxn (qd r)
 have HX:=zxi (heap_alloc_new w (qd r))
 have HB:=zxi ((Below.refl w.heap.size w).alloc zxn (qd r))
 obtain⟨W0,hW0⟩:∃ W0,w.alloc (qd r)=W0:=⟨_,rfl⟩
 rw[hW0] at hG0 hm0 HX HB
 have hrk:r.kind=17:=by rw[hm.kind];exact hkd
 have HQ:=zxi (jy x r W0 hm0 r.kind none 0 0 [] (.nil_ _ _ _) hc)
 have HP:=zxi (fun W (hb:Below W0.heap.size W0 W)=>Qj x r W (hm0.after zxn hb) r.kind none 0 0 [] (.nil_ _ _ _) hc)
 have hv:RR 11 x=((qc x.name&&decide (x.kind=r.kind)&&qx [] x.kids)||(x.name.isEmpty&&decide (x.kind=r.kind)&&qx [] x.kids)):=by
  rw[hrk]
  obtain⟨k,f,e,a,n,l⟩:=x
  change k=17 at hkd
  subst hkd
  show isR qc qw _ 11=((qc n&&decide ((17:Int)=17)&&qx [] l)||(n.isEmpty&&decide ((17:Int)=17)&&qx [] l))
  exact qsj
 generalize RR 11 x=B at *
 generalize (qc x.name&&decide (x.kind=r.kind)&&qx [] x.kids)=Bn at *
 generalize (x.name.isEmpty&&decide (x.kind=r.kind)&&qx [] x.kids)=Bp at *
 subst hv
 obtain⟨-,e0,e1,e2,e3,e4,e5⟩:=qh HX.out (Below.refl _ _)
 have q11:(r.kind == 11)=false:=by simp[hrk]
 have q10:(r.kind == 10)=false:=by simp[hrk]
 have q14:(r.kind == 14)=false:=by simp[hrk]
 have q15:(r.kind == 15)=false:=by simp[hrk]
 have q16:(r.kind == 16)=false:=by simp[hrk]
 have q17:(r.kind == 17)=true:=by simp[hrk]
 have q18:(r.kind == 18)=false:=by simp[hrk]
 exact qtZ
theorem qtz (x:Tree) (hkd:x.kind=18):FnP 87 (RR 11) x:=by
 intro r w hG hm hc
 have hG0:=hG.alloc (qd r)
 have hm0:=hm.boxed zxn (qd r)
 have HX:=zxi (heap_alloc_new w (qd r))
 have HB:=zxi ((Below.refl w.heap.size w).alloc zxn (qd r))
 obtain⟨W0,hW0⟩:∃ W0,w.alloc (qd r)=W0:=⟨_,rfl⟩
 rw[hW0] at hG0 hm0 HX HB
 have hrk:r.kind=18:=by rw[hm.kind];exact hkd
 have HQ:=zxi (jy x r W0 hm0 r.kind none 0 0 [] (.nil_ _ _ _) hc)
 have HP:=zxi (fun W (hb:Below W0.heap.size W0 W)=>Qj x r W (hm0.after zxn hb) r.kind none 0 0 [] (.nil_ _ _ _) hc)
 have hv:RR 11 x=((qc x.name&&decide (x.kind=r.kind)&&qx [] x.kids)||(x.name.isEmpty&&decide (x.kind=r.kind)&&qx [] x.kids)):=by
  rw[hrk]
  obtain⟨k,f,e,a,n,l⟩:=x
  change k=18 at hkd
  subst hkd
  show isR qc qw _ 11=((qc n&&decide ((18:Int)=18)&&qx [] l)||(n.isEmpty&&decide ((18:Int)=18)&&qx [] l))
  exact qsj
 generalize RR 11 x=B at *
 generalize (qc x.name&&decide (x.kind=r.kind)&&qx [] x.kids)=Bn at *
 generalize (x.name.isEmpty&&decide (x.kind=r.kind)&&qx [] x.kids)=Bp at *
 subst hv
 obtain⟨-,e0,e1,e2,e3,e4,e5⟩:=qh HX.out (Below.refl _ _)
 have q11:(r.kind == 11)=false:=by simp[hrk]
 have q10:(r.kind == 10)=false:=by simp[hrk]
 have q14:(r.kind == 14)=false:=by simp[hrk]
 have q15:(r.kind == 15)=false:=by simp[hrk]
 have q16:(r.kind == 16)=false:=by simp[hrk]
 have q17:(r.kind == 17)=false:=by simp[hrk]
 have q18:(r.kind == 18)=true:=by simp[hrk]
 exact qtZ
theorem qri (x:Tree) (hkd:x.kind=19):FnP 87 (RR 11) x:=by
 intro r w hG hm hc
 have hG0:=hG.alloc (qd r)
 have hm0:=hm.boxed zxn (qd r)
 have HX:=zxi (heap_alloc_new w (qd r))
 have HB:=zxi ((Below.refl w.heap.size w).alloc zxn (qd r))
 obtain⟨W0,hW0⟩:∃ W0,w.alloc (qd r)=W0:=⟨_,rfl⟩
 rw[hW0] at hG0 hm0 HX HB
 have hrk:r.kind=19:=by rw[hm.kind];exact hkd
 have HP:=zxi (fun W (hb:Below W0.heap.size W0 W) k A n c Ps (hS:SortsAt W A n Ps x.kids)=>Qj x r W (hm0.after zxn hb) k A n c Ps hS hc)
 have HQ:=zxi (fun W (hb:Below W0.heap.size W0 W) k A n c Ps (hS:SortsAt W A n Ps x.kids)=>jy x r W (hm0.after zxn hb) k A n c Ps hS hc)
 have HEv:=zxi (fun(w W:World) (lb:Array Value) (cc:Nat) (head:Bool) (hE:EV w lb (cc:Int) head) (h1:1≤cc) (h7:cc≤7) (hb:Below w.heap.size w W) (hb0:Below W0.heap.size W0 W) y (hy:y∈x.kids)=>hE.sort hb cc rfl h1 h7 (hG0.below hb0) (qma y) (qk hc hy))
 have hv:RR 11 x=((x.name.isEmpty&&decide (x.kind=19)&&qx [] x.kids)||(x.name.isEmpty&&decide (x.kind=19)&&qx [RR (eC 1 false)] x.kids)):=by
  obtain⟨k,f,e,a,n,l⟩:=x
  change k=19 at hkd
  subst hkd
  show isR qc qw _ 11=((n.isEmpty&&decide ((19:Int)=19)&&qx [] l)||(n.isEmpty&&decide ((19:Int)=19)&&qx [fun t=>isR qc qw t 101] l))
  rw[quZ,qN]
  cases n.isEmpty<;>cases l.isEmpty<;>simp
 have HN:=zxi (fun W (hb:Below W0.heap.size W0 W)=>HP.out W hb 19 none 0 0 [] (.nil_ _ _ _))
 generalize RR 11 x=B at *
 generalize hb0:(x.name.isEmpty&&decide (x.kind=19)&&qx [] x.kids)=Bn at *
 generalize hb1:(x.name.isEmpty&&decide (x.kind=19)&&qx [RR (eC 1 false)] x.kids)=Bf at *
 subst hv
 have q11:(r.kind == 11)=false:=by simp[hrk]
 have q10:(r.kind == 10)=false:=by simp[hrk]
 have q14:(r.kind == 14)=false:=by simp[hrk]
 have q15:(r.kind == 15)=false:=by simp[hrk]
 have q16:(r.kind == 16)=false:=by simp[hrk]
 have q17:(r.kind == 17)=false:=by simp[hrk]
 have q18:(r.kind == 18)=false:=by simp[hrk]
 have q19:(r.kind == 19)=true:=by simp[hrk]
 clear hkd hrk hG hm hc hG0 hm0 hb0
 unfold RN.val at HP HN ⊢
 cases Bn with
 | true =>
  go_enter Tryz.func87,Tryz.ntmps87
  go_wp2_with fail
  rw[show w.alloc (.cells #[.int .i64 r.kind,.int .i64 r.fr,.int .i64 r.en,.int .i64 r.at_,.string r.name,.slice r.A r.n r.cap] 24)=W0 from hW0]
  have HKP:=zxi (fun W' (hBW:Below W0.heap.size W0 W')=>(show zS W0 w.heap.size r W' from by exact qh HX.out hBW))
  refine zHD HKP fun hHeld=>?_
  refine zTk 0 (h:=?_)
  refine zRd 1 (h:=fun KK hKK=>?_)
  go_simp
  (refine(zb HN).mono ?_;rintro e wA ⟨rfl,hbA⟩)
  (try go_wp2_with fail)
  refine zKK hKK HKP fun hHeld2=>?_;clear hKK KK hHeld;rename _=>hHeld
  refine zTk 2 (h:=?_)
  refine zTn 3 (h:=?_)
  exact qqd
 | false =>
  go_enter Tryz.func87,Tryz.ntmps87
  go_wp2_with fail
  rw[show w.alloc (.cells #[.int .i64 r.kind,.int .i64 r.fr,.int .i64 r.en,.int .i64 r.at_,.string r.name,.slice r.A r.n r.cap] 24)=W0 from hW0]
  have HKP:=zxi (fun W' (hBW:Below W0.heap.size W0 W')=>(show zS W0 w.heap.size r W' from by exact qh HX.out hBW))
  refine zHD HKP fun hHeld=>?_
  refine zTk 0 (h:=?_)
  refine zRd 1 (h:=fun KK hKK=>?_)
  go_simp
  (refine(zb HN).mono ?_;rintro e wA ⟨rfl,hbA⟩)
  (try go_wp2_with fail)
  refine zKK hKK HKP fun hHeld2=>?_;clear hKK KK hHeld;rename _=>hHeld
  refine zTk 2 (h:=?_)
  refine zTk 3 (h:=?_)
  refine zRd 4 (h:=fun KK hKK=>?_)
  go_simp
  (refine(aE _ _ _).mono ?_;rintro e wB ⟨⟨lbB,rfl,hB1⟩,hbB⟩)
  (try go_wp2_with fail)
  refine zKK hKK HKP fun hHeld2=>?_;clear hKK KK hHeld;rename _=>hHeld
  refine zRd 5 (h:=fun KK hKK=>?_)
  go_simp
  refine zKK hKK HKP fun hHeld2=>?_;clear hKK KK hHeld;rename _=>hHeld
  refine zRd 6 (h:=fun KK hKK=>?_)
  go_simp
  (refine((zb HP) _ _ _ _ [RR (eC 1 false)] (SortsAt.lit (vs:=[_]) (qG zxs) ⟨HEv.out _ _ _ 1 false hB1 zxo zxo zxq zxq,trivial⟩)).mono ?_;rintro e wC ⟨he,hbC⟩;rw[hb1] at he;subst he)
  exact qts
theorem qrx (x:Tree) (hkd11:x.kind≠11) (hkd10:x.kind≠10) (hkd14:x.kind≠14) (hkd15:x.kind≠15) (hkd16:x.kind≠16) (hkd17:x.kind≠17) (hkd18:x.kind≠18) (hkd19:x.kind≠19):FnP 87 (RR 11) x:=by
 intro r w hG hm hc
 have hG0:=hG.alloc (qd r)
 have hm0:=hm.boxed zxn (qd r)
 have HX:=zxi (heap_alloc_new w (qd r))
 have HB:=zxi ((Below.refl w.heap.size w).alloc zxn (qd r))
 obtain⟨W0,hW0⟩:∃ W0,w.alloc (qd r)=W0:=⟨_,rfl⟩
 rw[hW0] at hG0 hm0 HX HB
 have HD:=zxi (fun W lb (hE:HV W lb false) (hb:Below W0.heap.size W0 W)=>qdg x false W lb hE (hG0.below hb) r (hm0.after zxn hb) hc)
 have HT:=zxi (fun W lb (hE:HV W lb false) (hb:Below W0.heap.size W0 W)=>qjQ x false W lb hE (hG0.below hb) r (hm0.after zxn hb) hc)
 have hv:RR 11 x=(RR (qj2 false) x||RR (qas false) x):=by
  obtain⟨k,f,e,a,n,l⟩:=x
  exact quO qc qw k f e a n l hkd11 hkd10 hkd14 hkd15 hkd16 hkd17 hkd18 hkd19
 generalize RR 11 x=B at *
 generalize RR (qj2 false) x=Bn at *
 generalize RR (qas false) x=Bf at *
 subst hv
 have q11:(r.kind == 11)=false:=by rw[hm.kind];exact beq_eq_false_iff_ne.2 hkd11
 have q10:(r.kind == 10)=false:=by rw[hm.kind];exact beq_eq_false_iff_ne.2 hkd10
 have q14:(r.kind == 14)=false:=by rw[hm.kind];exact beq_eq_false_iff_ne.2 hkd14
 have q15:(r.kind == 15)=false:=by rw[hm.kind];exact beq_eq_false_iff_ne.2 hkd15
 have q16:(r.kind == 16)=false:=by rw[hm.kind];exact beq_eq_false_iff_ne.2 hkd16
 have q17:(r.kind == 17)=false:=by rw[hm.kind];exact beq_eq_false_iff_ne.2 hkd17
 have q18:(r.kind == 18)=false:=by rw[hm.kind];exact beq_eq_false_iff_ne.2 hkd18
 have q19:(r.kind == 19)=false:=by rw[hm.kind];exact beq_eq_false_iff_ne.2 hkd19
 clear hkd11 hkd10 hkd14 hkd15 hkd16 hkd17 hkd18 hkd19 hG hm hc hG0 hm0
 have eg1:∀ args w,(callFunc 116 args).run Tryz.prog w = .ok (.enter 116 args) w:=fun args w=>by rfl
 have eg2:∀ args w,(callFunc 117 args).run Tryz.prog w = .ok (.enter 117 args) w:=fun args w=>by rfl
 unfold RN.val at HD HT ⊢
 cases Bn with
 | true =>
  go_enter Tryz.func87,Tryz.ntmps87
  go_wp2_with fail
  rw[show w.alloc (.cells #[.int .i64 r.kind,.int .i64 r.fr,.int .i64 r.en,.int .i64 r.at_,.string r.name,.slice r.A r.n r.cap] 24)=W0 from hW0]
  have HKP:=zxi (fun W' (hBW:Below W0.heap.size W0 W')=>(show zS W0 w.heap.size r W' from by exact qh HX.out hBW))
  refine zHD HKP fun hHeld=>?_
  refine zTk 1 (h:=?_)
  refine zRd 0 (h:=fun KK hKK=>?_)
  go_simp
  (refine(qet _ _).mono ?_;rintro e wA ⟨⟨lbA,rfl,hA⟩,hbA⟩)
  (try go_wp2_with fail)
  refine zKK hKK HKP fun hHeld2=>?_;clear hKK KK hHeld;rename _=>hHeld
  refine zRd 2 (h:=fun KK hKK=>?_)
  go_simp
  (go_at_fn 116;refine(HD.out _ _ hA zxq).mono ?_;rintro e wB ⟨rfl,hbB⟩)
  (try go_wp2_with fail)
  refine zKK hKK HKP fun hHeld2=>?_;clear hKK KK hHeld;rename _=>hHeld
  refine zTk 3 (h:=?_)
  exact qqd
 | false =>
  go_enter Tryz.func87,Tryz.ntmps87
  go_wp2_with fail
  rw[show w.alloc (.cells #[.int .i64 r.kind,.int .i64 r.fr,.int .i64 r.en,.int .i64 r.at_,.string r.name,.slice r.A r.n r.cap] 24)=W0 from hW0]
  have HKP:=zxi (fun W' (hBW:Below W0.heap.size W0 W')=>(show zS W0 w.heap.size r W' from by exact qh HX.out hBW))
  refine zHD HKP fun hHeld=>?_
  refine zTk 1 (h:=?_)
  refine zRd 0 (h:=fun KK hKK=>?_)
  go_simp
  (refine(qet _ _).mono ?_;rintro e wA ⟨⟨lbA,rfl,hA⟩,hbA⟩)
  (try go_wp2_with fail)
  refine zKK hKK HKP fun hHeld2=>?_;clear hKK KK hHeld;rename _=>hHeld
  refine zRd 2 (h:=fun KK hKK=>?_)
  go_simp
  (go_at_fn 116;refine(HD.out _ _ hA zxq).mono ?_;rintro e wB ⟨rfl,hbB⟩)
  (try go_wp2_with fail)
  refine zKK hKK HKP fun hHeld2=>?_;clear hKK KK hHeld;rename _=>hHeld
  refine zTk 3 (h:=?_)
  refine zTk 5 (h:=?_)
  refine zRd 4 (h:=fun KK hKK=>?_)
  go_simp
  (refine(qns _ _).mono ?_;rintro e wC ⟨⟨lbC,rfl,hC⟩,hbC⟩)
  (try go_wp2_with fail)
  refine zKK hKK HKP fun hHeld2=>?_;clear hKK KK hHeld;rename _=>hHeld
  refine zRd 6 (h:=fun KK hKK=>?_)
  go_simp
  (go_at_fn 117;refine(HT.out _ _ hC zxq).mono ?_;rintro e wD ⟨rfl,hbD⟩)
  exact qts
end Go.Proofs.YtacdfjlncfidgaaGreatDoor
