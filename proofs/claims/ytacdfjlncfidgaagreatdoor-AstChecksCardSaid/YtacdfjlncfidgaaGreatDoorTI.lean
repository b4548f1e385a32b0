/- A part of what the claim leans on. -/
import Derived.Test.YtacdfjlncfidgaaGreatDoorQS
import Derived.Test.YtacdfjlncfidgaaGreatDoorTG
import Derived.Laws.EntriesVeiled
namespace Go.Proofs.YtacdfjlncfidgaaGreatDoor
open Go.RowKit
set_option linter.unusedVariables false
set_option linter.unusedSimpArgs false
set_option maxRecDepth 100000
set_option maxHeartbeats 3200000
theorem qfA (a b n:BL):jp [a,b] n=(decide (n=a)||decide (n=b)):=by
 unfold jp
 rw[Bool.eq_iff_iff,List.contains_iff_mem]
 simp
theorem qvL (x:Tree) (hkd:x.kind=24):EOk x:=by
 rintro k c head rfl h1c h7c w lb ⟨b0,b1,b2,b3,rfl,g0,g1,g2,g3⟩ hG r hm hc
 have HE0:=zxi (And.intro (qb (o':=qd r) g0) (And.intro (qb (o':=qd r) g1) (And.intro (qb (o':=qd r) g2) (qb (o':=qd r) g3))))
 have hG0:=hG.alloc (qd r)
 have hm0:=hm.boxed zxn (qd r)
 have HX:=zxi (heap_alloc_new w (qd r))
 have HB:=zxi ((Below.refl w.heap.size w).alloc zxn (qd r))
 obtain⟨W0,hW0⟩:∃ W0,w.alloc (qd r)=W0:=⟨_,rfl⟩
 rw[hW0] at hG0 hm0 HX HB HE0
 have hrk:r.kind=24:=by rw[hm.kind];exact hkd
 have hname:r.name.data.toList=x.name:=by rw[hm.name,qj]
 obtain⟨-,e0,e1,e2,e3,e4,e5,f0,f1,f2,f3⟩:=qy HX.out HE0.out.1 HE0.out.2.1 HE0.out.2.2.1 HE0.out.2.2.2 (Below.refl _ _)
 have HS:=zxi (fun W (hb:Below W0.heap.size W0 W) A n cc Ps (hS:SortsAt W A n Ps x.kids)=>QO x r W (hm0.after zxn hb) r.kind A n cc Ps hS hc)
 have HT:=zxi (JJ r.name ⟨#[116,114,117,101,32,102,97,108,115,101]⟩ [qa3,Jf] 2 rfl (by decide +kernel) zxd (by decide +kernel) zxd W0 hG0)
 rw[hname] at HT
 have hv:RR (eC c head) x=(jp [qa3,Jf] x.name&&(decide (x.kind=r.kind)&&qx [] x.kids)):=by
  rw[hrk]
  obtain⟨k,f,e,a,n,l⟩:=x
  change k=24 at hkd
  subst hkd
  show isR qc qw _ (eC c head)=(jp [qa3,Jf] n&&(decide ((24:Int)=24)&&qx [] l))
  rw[isE qc qw _ _ _ _ _ _ c head h1c h7c,qN,qfA]
  simp[QX]
 generalize RR (eC c head) x=B at *
 generalize jp [qa3,Jf] x.name=Bt at *
 generalize hbs:(decide (x.kind=r.kind)&&qx [] x.kids)=Bs at *
 subst hv
 have q31:(r.kind == 31)=false:=by simp[hrk]
 have q30:(r.kind == 30)=false:=by simp[hrk]
 have q21:(r.kind == 21)=false:=by simp[hrk]
 have q22:(r.kind == 22)=false:=by simp[hrk]
 have q23:(r.kind == 23)=false:=by simp[hrk]
 have q24:(r.kind == 24)=true:=by simp[hrk]
 have q25:(r.kind == 25)=false:=by simp[hrk]
 have q33:(r.kind == 33)=false:=by simp[hrk]
 have q26:(r.kind == 26)=false:=by simp[hrk]
 have q32:(r.kind == 32)=false:=by simp[hrk]
 have q27:(r.kind == 27)=false:=by simp[hrk]
 have q28:(r.kind == 28)=false:=by simp[hrk]
 clear hkd hrk hG hm hc hG0 hm0 g0 g1 g2 g3 hname
 show Calls Tryz.prog 112 #[r.val,.pointer (some ⟨b0,0,none⟩),.pointer (some ⟨b1,0,none⟩),.pointer (some ⟨b2,0,none⟩),.pointer (some ⟨b3,0,none⟩)] w _
 unfold RN.val at HS ⊢
 cases Bt with
 | true =>exact qr4
 | false =>exact qr4
theorem qu6 (x:Tree) (hkd:x.kind=25):EOk x:=by
 rintro k c head rfl h1c h7c w lb ⟨b0,b1,b2,b3,rfl,g0,g1,g2,g3⟩ hG r hm hc
 have HE0:=zxi (And.intro (qb (o':=qd r) g0) (And.intro (qb (o':=qd r) g1) (And.intro (qb (o':=qd r) g2) (qb (o':=qd r) g3))))
 have hG0:=hG.alloc (qd r)
 have hm0:=hm.boxed zxn (qd r)
 have HX:=zxi (heap_alloc_new w (qd r))
 have HB:=zxi ((Below.refl w.heap.size w).alloc zxn (qd r))
 obtain⟨W0,hW0⟩:∃ W0,w.alloc (qd r)=W0:=⟨_,rfl⟩
 rw[hW0] at hG0 hm0 HX HB HE0
 have hrk:r.kind=25:=by rw[hm.kind];exact hkd
 have hname:r.name.data.toList=x.name:=by rw[hm.name,qj]
 obtain⟨-,e0,e1,e2,e3,e4,e5,f0,f1,f2,f3⟩:=qy HX.out HE0.out.1 HE0.out.2.1 HE0.out.2.2.1 HE0.out.2.2.2 (Below.refl _ _)
 have HT:=zxi (qer x r W0 hG0 hm0 hc)
 have hv:RR (eC c head) x=RR 17 x:=by
  obtain⟨k,f,e,a,n,l⟩:=x
  change k=25 at hkd
  subst hkd
  show isR qc qw _ (eC c head)=isR qc qw _ 17
  rw[isE qc qw _ _ _ _ _ _ c head h1c h7c,qih]
  simp[QX]
 rw[← hv] at HT
 generalize RR (eC c head) x=B at *
 have q31:(r.kind == 31)=false:=by simp[hrk]
 have q30:(r.kind == 30)=false:=by simp[hrk]
 have q21:(r.kind == 21)=false:=by simp[hrk]
 have q22:(r.kind == 22)=false:=by simp[hrk]
 have q23:(r.kind == 23)=false:=by simp[hrk]
 have q24:(r.kind == 24)=false:=by simp[hrk]
 have q25:(r.kind == 25)=true:=by simp[hrk]
 have q33:(r.kind == 33)=false:=by simp[hrk]
 have q26:(r.kind == 26)=false:=by simp[hrk]
 have q32:(r.kind == 32)=false:=by simp[hrk]
 have q27:(r.kind == 27)=false:=by simp[hrk]
 have q28:(r.kind == 28)=false:=by simp[hrk]
 clear hv hkd hrk hG hm hc hG0 hm0 g0 g1 g2 g3 hname
 show Calls Tryz.prog 112 #[r.val,.pointer (some ⟨b0,0,none⟩),.pointer (some ⟨b1,0,none⟩),.pointer (some ⟨b2,0,none⟩),.pointer (some ⟨b3,0,none⟩)] w _
 unfold RN.val at HT ⊢
 go_enter Tryz.func112,Tryz.ntmps112
 go_wp2_with (first | (go_at_call 94;go_must (rw[show w.alloc (.cells #[.int .i64 r.kind,.int .i64 r.fr,.int .i64 r.en,.int .i64 r.at_,.string r.name,.slice r.A r.n r.cap] 24)=W0 from hW0];refine HT.out.mono ?_);rintro e wA ⟨rfl,hbA⟩))
 exact qf7
theorem qvT (x:Tree) (hk:∀ y∈x.kids,EOk y) (hkd:x.kind=33):EOk x:=by
 rintro k c head rfl h1c h7c w lb ⟨b0,b1,b2,b3,rfl,g0,g1,g2,g3⟩ hG r hm hc
 have HE0:=zxi (And.intro (qb (o':=qd r) g0) (And.intro (qb (o':=qd r) g1) (And.intro (qb (o':=qd r) g2) (qb (o':=qd r) g3))))
 have hG0:=hG.alloc (qd r)
 have hm0:=hm.boxed zxn (qd r)
 have HX:=zxi (heap_alloc_new w (qd r))
 have HB:=zxi ((Below.refl w.heap.size w).alloc zxn (qd r))
 obtain⟨W0,hW0⟩:∃ W0,w.alloc (qd r)=W0:=⟨_,rfl⟩
 rw[hW0] at hG0 hm0 HX HB HE0
 have hrk:r.kind=33:=by rw[hm.kind];exact hkd
 have hname:r.name.data.toList=x.name:=by rw[hm.name,qj]
 obtain⟨-,e0,e1,e2,e3,e4,e5,f0,f1,f2,f3⟩:=qy HX.out HE0.out.1 HE0.out.2.1 HE0.out.2.2.1 HE0.out.2.2.2 (Below.refl _ _)
 have hsz:W0.heap.size=w.heap.size+1:=by rw[← hW0,World.size_alloc]
 have hrow:=qG (w:=W0) (o:=.cells #[.func (.func 110) #[] #[]] 64) hsz.symm
 have HT:=zxi (Qj x r (W0.alloc (.cells #[.func (.func 110) #[] #[]] 64)) (hm0.boxed zxn _) 33 (some ⟨w.heap.size+1,0,none⟩) 1 1 [RR 101] (SortsAt.lit (vs:=[.func (.func 110) #[] #[]]) hrow ⟨fun y hy=>(qcT y (hk y hy)).sort (fun args w=>by rfl) (hG0.alloc _) (qk hc hy),trivial⟩) hc)
 have HB1:=zxi (qt (o:=.cells #[.func (.func 110) #[] #[]] 64) (Below.refl W0.heap.size W0))
 have hv:(x.name.isEmpty&&decide (x.kind=33)&&qx [RR 101] x.kids)=RR (eC c head) x:=by
  symm
  obtain⟨k,f,e,a,n,l⟩:=x
  change k=33 at hkd
  subst hkd
  show isR qc qw _ (eC c head)=(n.isEmpty&&decide ((33:Int)=33)&&qx [RR 101] l)
  exact qkt
 rw[hv] at HT
 generalize RR (eC c head) x=B at *
 have q31:(r.kind == 31)=false:=by simp[hrk]
 have q30:(r.kind == 30)=false:=by simp[hrk]
 have q21:(r.kind == 21)=false:=by simp[hrk]
 have q22:(r.kind == 22)=false:=by simp[hrk]
 have q23:(r.kind == 23)=false:=by simp[hrk]
 have q24:(r.kind == 24)=false:=by simp[hrk]
 have q25:(r.kind == 25)=false:=by simp[hrk]
 have q33:(r.kind == 33)=true:=by simp[hrk]
 have q26:(r.kind == 26)=false:=by simp[hrk]
 have q32:(r.kind == 32)=false:=by simp[hrk]
 have q27:(r.kind == 27)=false:=by simp[hrk]
 have q28:(r.kind == 28)=false:=by simp[hrk]
 obtain⟨u0,_,v0⟩:=jf g0
 obtain⟨u1,_,v1⟩:=jf g1
 obtain⟨u2,_,v2⟩:=jf g2
 obtain⟨u3,_,v3⟩:=jf g3
 clear hv hrow hsz hk hkd hrk hG hm hc hG0 hm0 g0 g1 g2 g3 hname
 show Calls Tryz.prog 112 #[r.val,.pointer (some ⟨b0,0,none⟩),.pointer (some ⟨b1,0,none⟩),.pointer (some ⟨b2,0,none⟩),.pointer (some ⟨b3,0,none⟩)] w _
 unfold RN.val at HT ⊢
 go_enter Tryz.func112,Tryz.ntmps112
 go_wp2_with (first | (go_at_call 83;go_must (rw[show w.alloc (.cells #[.int .i64 r.kind,.int .i64 r.fr,.int .i64 r.en,.int .i64 r.at_,.string r.name,.slice r.A r.n r.cap] 24)=W0 from hW0];refine HT.out.mono ?_);rintro e wA ⟨rfl,hbA⟩))
 go_ret
 exact⟨rfl,qa HB.out (qa HB1.out hbA)⟩
theorem qvd (x:Tree) (hk:∀ y∈x.kids,EOk y) (hkd:x.kind=26):EOk x:=by
 rintro k c head rfl h1c h7c w lb ⟨b0,b1,b2,b3,rfl,g0,g1,g2,g3⟩ hG r hm hc
 have HE0:=zxi (And.intro (qb (o':=qd r) g0) (And.intro (qb (o':=qd r) g1) (And.intro (qb (o':=qd r) g2) (qb (o':=qd r) g3))))
 have hG0:=hG.alloc (qd r)
 have hm0:=hm.boxed zxn (qd r)
 have HX:=zxi (heap_alloc_new w (qd r))
 have HB:=zxi ((Below.refl w.heap.size w).alloc zxn (qd r))
 obtain⟨W0,hW0⟩:∃ W0,w.alloc (qd r)=W0:=⟨_,rfl⟩
 rw[hW0] at hG0 hm0 HX HB HE0
 have hrk:r.kind=26:=by rw[hm.kind];exact hkd
 have hname:r.name.data.toList=x.name:=by rw[hm.name,qj]
 obtain⟨-,e0,e1,e2,e3,e4,e5,f0,f1,f2,f3⟩:=qy HX.out HE0.out.1 HE0.out.2.1 HE0.out.2.2.1 HE0.out.2.2.2 (Below.refl _ _)
 have hsz:W0.heap.size=w.heap.size+1:=by rw[← hW0,World.size_alloc]
 have hrow:=qG (w:=W0) (o:=.cells #[.func (.func 111) #[] #[.pointer (some ⟨b1,0,none⟩)]] 64) hsz.symm
 have HT:=zxi (jy x r (W0.alloc (.cells #[.func (.func 111) #[] #[.pointer (some ⟨b1,0,none⟩)]] 64)) (hm0.boxed zxn _) 26 (some ⟨w.heap.size+1,0,none⟩) 1 1 [RR (eC 7 head)] (SortsAt.lit (vs:=[.func (.func 111) #[] #[.pointer (some ⟨b1,0,none⟩)]]) hrow ⟨fun y hy=>qd1 (qb HE0.out.2.1) (hG0.alloc _) (hk y hy) (qk hc hy),trivial⟩) hc)
 have HB1:=zxi (qt (o:=.cells #[.func (.func 111) #[] #[.pointer (some ⟨b1,0,none⟩)]] 64) (Below.refl W0.heap.size W0))
 have hv:(qc x.name&&decide (x.kind=26)&&qx [RR (eC 7 head)] x.kids)=RR (eC c head) x:=by
  symm
  obtain⟨k,f,e,a,n,l⟩:=x
  change k=26 at hkd
  subst hkd
  show isR qc qw _ (eC c head)=(qc n&&decide ((26:Int)=26)&&qx [RR (eC 7 head)] l)
  exact qkt
 rw[hv] at HT
 generalize RR (eC c head) x=B at *
 have q31:(r.kind == 31)=false:=by simp[hrk]
 have q30:(r.kind == 30)=false:=by simp[hrk]
 have q21:(r.kind == 21)=false:=by simp[hrk]
 have q22:(r.kind == 22)=false:=by simp[hrk]
 have q23:(r.kind == 23)=false:=by simp[hrk]
 have q24:(r.kind == 24)=false:=by simp[hrk]
 have q25:(r.kind == 25)=false:=by simp[hrk]
 have q33:(r.kind == 33)=false:=by simp[hrk]
 have q26:(r.kind == 26)=true:=by simp[hrk]
 have q32:(r.kind == 32)=false:=by simp[hrk]
 have q27:(r.kind == 27)=false:=by simp[hrk]
 have q28:(r.kind == 28)=false:=by simp[hrk]
 obtain⟨u0,_,v0⟩:=jf g0
 obtain⟨u1,_,v1⟩:=jf g1
 obtain⟨u2,_,v2⟩:=jf g2
 obtain⟨u3,_,v3⟩:=jf g3
 clear hv hrow hsz hk hkd hrk hG hm hc hG0 hm0 g0 g1 g2 g3 hname
 show Calls Tryz.prog 112 #[r.val,.pointer (some ⟨b0,0,none⟩),.pointer (some ⟨b1,0,none⟩),.pointer (some ⟨b2,0,none⟩),.pointer (some ⟨b3,0,none⟩)] w _
 unfold RN.val at HT ⊢
 go_enter Tryz.func112,Tryz.ntmps112
 go_wp2_with (first | (go_at_call 58;go_must (rw[show w.alloc (.cells #[.int .i64 r.kind,.int .i64 r.fr,.int .i64 r.en,.int .i64 r.at_,.string r.name,.slice r.A r.n r.cap] 24)=W0 from hW0];refine HT.out.mono ?_);rintro e wA ⟨rfl,hbA⟩))
 go_ret
 exact⟨rfl,qa HB.out (qa HB1.out hbA)⟩
theorem qvw (x:Tree) (hk:∀ y∈x.kids,EOk y) (hkd:x.kind=30):EOk x:=by
 rintro k c head rfl h1c h7c w lb ⟨b0,b1,b2,b3,rfl,g0,g1,g2,g3⟩ hG r hm hc
 have HE0:=zxi (And.intro (qb (o':=qd r) g0) (And.intro (qb (o':=qd r) g1) (And.intro (qb (o':=qd r) g2) (qb (o':=qd r) g3))))
 have hG0:=hG.alloc (qd r)
 have hm0:=hm.boxed zxn (qd r)
 have HX:=zxi (heap_alloc_new w (qd r))
 have HB:=zxi ((Below.refl w.heap.size w).alloc zxn (qd r))
 obtain⟨W0,hW0⟩:∃ W0,w.alloc (qd r)=W0:=⟨_,rfl⟩
 rw[hW0] at hG0 hm0 HX HB HE0
 have hrk:r.kind=30:=by rw[hm.kind];exact hkd
 have hname:r.name.data.toList=x.name:=by rw[hm.name,qj]
 obtain⟨-,e0,e1,e2,e3,e4,e5,f0,f1,f2,f3⟩:=qy HX.out HE0.out.1 HE0.out.2.1 HE0.out.2.2.1 HE0.out.2.2.2 (Below.refl _ _)
 have HS:=zxi (fun W (hb:Below W0.heap.size W0 W) A n cc Ps (hS:SortsAt W A n Ps x.kids)=>QO x r W (hm0.after zxn hb) 30 A n cc Ps hS hc)
 have HV:=zxi (fun(w W:World) (lb:Array Value) (kk:Int) (cc:Nat) (hE:EV w lb kk head) (hkk:kk=(cc:Int)) (h1:1≤cc) (h7:cc≤7) (hb:Below w.heap.size w W) (hb0:Below W0.heap.size W0 W) y (hy:y∈x.kids)=>hE.sort hb cc hkk h1 h7 (hG0.below hb0) (hk y hy) (qk hc hy))
 have HT:=zxi (fun W (hb:Below W0.heap.size W0 W)=>JJ r.name ⟨#[45,32,33]⟩ [[45],[33]] 2 rfl (by decide +kernel) zxd (by decide +kernel) zxd W (hG0.below hb))
 rw[hname] at HT
 have hv:RR (eC c head) x=(decide (c≤6)&&jp [[45],[33]] x.name&&(decide (x.kind=30)&&qx [RR (eC 6 head)] x.kids)):=by
  obtain⟨k,f,e,a,n,l⟩:=x
  change k=30 at hkd
  subst hkd
  show isR qc qw _ (eC c head)=(decide (c≤6)&&jp [[45],[33]] n&&(decide ((30:Int)=30)&&qx [RR (eC 6 head)] l))
  rw[isE qc qw _ _ _ _ _ _ c head h1c h7c,qfA]
  simp[QX]
 generalize RR (eC c head) x=B at *
 generalize jp [[45],[33]] x.name=Bt at *
 generalize hbs:(decide (x.kind=30)&&qx [RR (eC 6 head)] x.kids)=Bs at *
 subst hv
 have q31:(r.kind == 31)=false:=by simp[hrk]
 have q30:(r.kind == 30)=true:=by simp[hrk]
 have q21:(r.kind == 21)=false:=by simp[hrk]
 have q22:(r.kind == 22)=false:=by simp[hrk]
 have q23:(r.kind == 23)=false:=by simp[hrk]
 have q24:(r.kind == 24)=false:=by simp[hrk]
 have q25:(r.kind == 25)=false:=by simp[hrk]
 have q33:(r.kind == 33)=false:=by simp[hrk]
 have q26:(r.kind == 26)=false:=by simp[hrk]
 have q32:(r.kind == 32)=false:=by simp[hrk]
 have q27:(r.kind == 27)=false:=by simp[hrk]
 have q28:(r.kind == 28)=false:=by simp[hrk]
 clear hk hkd hrk hG hm hc hG0 hm0 g0 g1 g2 g3 hname
 show Calls Tryz.prog 112 #[r.val,.pointer (some ⟨b0,0,none⟩),.pointer (some ⟨b1,0,none⟩),.pointer (some ⟨b2,0,none⟩),.pointer (some ⟨b3,0,none⟩)] w _
 unfold RN.val at HS ⊢
 by_cases hc6:c≤6
 · have j1:(c:Int)≤6:=by omega
   have j2:decide ((c:Int)≤6)=true:=decide_eq_true j1
   cases Bt with
   | true =>
    go_enter Tryz.func112,Tryz.ntmps112
    go_wp2_with fail
    rw[show w.alloc (.cells #[.int .i64 r.kind,.int .i64 r.fr,.int .i64 r.en,.int .i64 r.at_,.string r.name,.slice r.A r.n r.cap] 24)=W0 from hW0]
    have HKP:=zxi (fun W' (hBW:Below W0.heap.size W0 W')=>(show zE W0 w.heap.size r (fun w'=>w'.cell? ⟨b0,0,none⟩=some (.int .i64 (c:Int))∧w'.cell? ⟨b1,0,none⟩=some (.bool head)∧w'.cell? ⟨b2,0,none⟩=some (.func (.func 110) #[] #[])∧w'.cell? ⟨b3,0,none⟩=some (.func (.func 111) #[] #[.pointer (some ⟨b1,0,none⟩)])) W' from by exact qy HX.out HE0.out.1 HE0.out.2.1 HE0.out.2.2.1 HE0.out.2.2.2 hBW))
    refine zHD HKP fun hHeld=>?_
    refine zTk 0 (h:=?_)
    refine zTk 1 (h:=?_)
    refine zTk 2 (h:=?_)
    refine zTk 3 (h:=?_)
    refine zTk 4 (h:=?_)
    refine zRd 5 (h:=fun KK hKK=>?_)
    go_simp
    (refine(zb HT).mono ?_;rintro e wA ⟨rfl,hbA⟩)
    (try go_wp2_with fail)
    refine zKK hKK HKP fun hHeld2=>?_;clear hKK KK hHeld;rename _=>hHeld
    refine zTk 6 (h:=?_)
    refine zTk 7 (h:=?_)
    refine zTk 8 (h:=?_)
    refine zTk 9 (h:=?_)
    refine zRd 10 (h:=fun KK hKK=>?_)
    go_simp
    (refine(aE _ _ _).mono ?_;rintro e wB ⟨⟨lb1,rfl,hE1⟩,hbB⟩)
    (try go_wp2_with fail)
    refine zKK hKK HKP fun hHeld2=>?_;clear hKK KK hHeld;rename _=>hHeld
    refine zRd 11 (h:=fun KK hKK=>?_)
    go_simp
    refine zKK hKK HKP fun hHeld2=>?_;clear hKK KK hHeld;rename _=>hHeld
    refine zRd 12 (h:=fun KK hKK=>?_)
    go_simp
    (refine((zb HS) _ _ _ [RR (eC 6 head)] (SortsAt.lit (vs:=[_]) (qG zxs) ⟨HV.out _ _ _ _ 6 hE1 rfl zxo zxo zxq zxq,trivial⟩)).mono ?_;rintro e wC ⟨rfl,hbC⟩)
    (try go_wp2_with fail)
    refine zKK hKK HKP fun hHeld2=>?_;clear hKK KK hHeld;rename _=>hHeld
    refine zTk 13 (h:=?_)
    refine zTk 14 (h:=?_)
    exact qe1
   | false =>
    go_enter Tryz.func112,Tryz.ntmps112
    go_wp2_with fail
    rw[show w.alloc (.cells #[.int .i64 r.kind,.int .i64 r.fr,.int .i64 r.en,.int .i64 r.at_,.string r.name,.slice r.A r.n r.cap] 24)=W0 from hW0]
    have HKP:=zxi (fun W' (hBW:Below W0.heap.size W0 W')=>(show zE W0 w.heap.size r (fun w'=>w'.cell? ⟨b0,0,none⟩=some (.int .i64 (c:Int))∧w'.cell? ⟨b1,0,none⟩=some (.bool head)∧w'.cell? ⟨b2,0,none⟩=some (.func (.func 110) #[] #[])∧w'.cell? ⟨b3,0,none⟩=some (.func (.func 111) #[] #[.pointer (some ⟨b1,0,none⟩)])) W' from by exact qy HX.out HE0.out.1 HE0.out.2.1 HE0.out.2.2.1 HE0.out.2.2.2 hBW))
    refine zHD HKP fun hHeld=>?_
    refine zTk 0 (h:=?_)
    refine zTk 1 (h:=?_)
    refine zTk 2 (h:=?_)
    refine zTk 3 (h:=?_)
    refine zTk 4 (h:=?_)
    refine zRd 5 (h:=fun KK hKK=>?_)
    go_simp
    (refine(zb HT).mono ?_;rintro e wA ⟨rfl,hbA⟩)
    (try go_wp2_with fail)
    refine zKK hKK HKP fun hHeld2=>?_;clear hKK KK hHeld;rename _=>hHeld
    exact qp4
 · have j1:¬ (c:Int)≤6:=by omega
   have j2:decide ((c:Int)≤6)=false:=decide_eq_false j1
   go_enter Tryz.func112,Tryz.ntmps112
   go_wp2_with fail
   rw[show w.alloc (.cells #[.int .i64 r.kind,.int .i64 r.fr,.int .i64 r.en,.int .i64 r.at_,.string r.name,.slice r.A r.n r.cap] 24)=W0 from hW0]
   have HKP:=zxi (fun W' (hBW:Below W0.heap.size W0 W')=>(show zE W0 w.heap.size r (fun w'=>w'.cell? ⟨b0,0,none⟩=some (.int .i64 (c:Int))∧w'.cell? ⟨b1,0,none⟩=some (.bool head)∧w'.cell? ⟨b2,0,none⟩=some (.func (.func 110) #[] #[])∧w'.cell? ⟨b3,0,none⟩=some (.func (.func 111) #[] #[.pointer (some ⟨b1,0,none⟩)])) W' from by exact qy HX.out HE0.out.1 HE0.out.2.1 HE0.out.2.2.1 HE0.out.2.2.2 hBW))
   refine zHD HKP fun hHeld=>?_
   refine zTk 0 (h:=?_)
   refine zTk 1 (h:=?_)
   refine zTk 2 (h:=?_)
   refine zTn 3 (h:=?_)
   refine zTn 4 (h:=?_)
   refine zTn 5 (h:=?_)
   exact qp4
theorem qvM (x:Tree) (hk:∀ y∈x.kids,EOk y) (hkd:x.kind=31):EOk x:=by
 rintro k c head rfl h1c h7c w lb ⟨b0,b1,b2,b3,rfl,g0,g1,g2,g3⟩ hG r hm hc
 have HE0:=zxi (And.intro (qb (o':=qd r) g0) (And.intro (qb (o':=qd r) g1) (And.intro (qb (o':=qd r) g2) (qb (o':=qd r) g3))))
 have hG0:=hG.alloc (qd r)
 have hm0:=hm.boxed zxn (qd r)
 have HX:=zxi (heap_alloc_new w (qd r))
 have HB:=zxi ((Below.refl w.heap.size w).alloc zxn (qd r))
 obtain⟨W0,hW0⟩:∃ W0,w.alloc (qd r)=W0:=⟨_,rfl⟩
 rw[hW0] at hG0 hm0 HX HB HE0
 have hrk:r.kind=31:=by rw[hm.kind];exact hkd
 have hname:r.name.data.toList=x.name:=by rw[hm.name,qj]
 obtain⟨-,e0,e1,e2,e3,e4,e5,f0,f1,f2,f3⟩:=qy HX.out HE0.out.1 HE0.out.2.1 HE0.out.2.2.1 HE0.out.2.2.2 (Below.refl _ _)
 have HS:=zxi (fun W (hb:Below W0.heap.size W0 W) A n cc Ps (hS:SortsAt W A n Ps x.kids)=>QO x r W (hm0.after zxn hb) 31 A n cc Ps hS hc)
 have HV:=zxi (fun(w W:World) (lb:Array Value) (kk:Int) (cc:Nat) (hE:EV w lb kk head) (hkk:kk=(cc:Int)) (h1:1≤cc) (h7:cc≤7) (hb:Below w.heap.size w W) (hb0:Below W0.heap.size W0 W) y (hy:y∈x.kids)=>hE.sort hb cc hkk h1 h7 (hG0.below hb0) (hk y hy) (qk hc hy))
 have HT:=zxi (qpU r.name W0 hG0)
 have hL5:=qpZ x.name
 rw[hname] at HT
 have hv:RR (eC c head) x=(decide (c≤jV x.name)&&decide (0<jV x.name)&&(decide (x.kind=31)&&qx [RR (eC (jV x.name) head),RR (eC (jV x.name+1) head)] x.kids)):=by
  obtain⟨k,f,e,a,n,l⟩:=x
  change k=31 at hkd
  subst hkd
  show isR qc qw _ (eC c head)=(decide (c≤jV n)&&decide (0<jV n)&&(decide ((31:Int)=31)&&qx [RR (eC (jV n) head),RR (eC (jV n+1) head)] l))
  exact qkt
 generalize RR (eC c head) x=B at *
 generalize jV x.name=L at *
 generalize hbs:(decide (x.kind=31)&&qx [RR (eC L head),RR (eC (L+1) head)] x.kids)=Bs at *
 subst hv
 have q31:(r.kind == 31)=true:=by simp[hrk]
 have q30:(r.kind == 30)=false:=by simp[hrk]
 have q21:(r.kind == 21)=false:=by simp[hrk]
 have q22:(r.kind == 22)=false:=by simp[hrk]
 have q23:(r.kind == 23)=false:=by simp[hrk]
 have q24:(r.kind == 24)=false:=by simp[hrk]
 have q25:(r.kind == 25)=false:=by simp[hrk]
 have q33:(r.kind == 33)=false:=by simp[hrk]
 have q26:(r.kind == 26)=false:=by simp[hrk]
 have q32:(r.kind == 32)=false:=by simp[hrk]
 have q27:(r.kind == 27)=false:=by simp[hrk]
 have q28:(r.kind == 28)=false:=by simp[hrk]
 clear hk hkd hrk hG hm hc hG0 hm0 g0 g1 g2 g3 hname
 show Calls Tryz.prog 112 #[r.val,.pointer (some ⟨b0,0,none⟩),.pointer (some ⟨b1,0,none⟩),.pointer (some ⟨b2,0,none⟩),.pointer (some ⟨b3,0,none⟩)] w _
 unfold RN.val at HS ⊢
 have l1:(L:Int)≤5:=by omega
 have hwr:IntKind.i64.wrap ((L:Int)+1)=(L:Int)+1:=by rw[IntKind.wrap_i64];omega
 have l0:(0:Int)≤(L:Int):=by omega
 by_cases hcL:c≤L
 · have j1:(c:Int)≤(L:Int):=by omega
   have j2:decide ((c:Int)≤(L:Int))=true:=decide_eq_true j1
   have j3:(0:Int)<(L:Int):=by omega
   have j4:decide ((0:Int)<(L:Int))=true:=decide_eq_true j3
   have j5:0<L:=by omega
   go_enter Tryz.func112,Tryz.ntmps112
   go_wp2_with (go_at_call 113;go_must (rw[show w.alloc (.cells #[.int .i64 r.kind,.int .i64 r.fr,.int .i64 r.en,.int .i64 r.at_,.string r.name,.slice r.A r.n r.cap] 24)=W0 from hW0];refine HT.out.mono ?_);rintro e wA ⟨rfl,hbA⟩;clear e0 e1 e2 e3 e4 e5 f0 f1 f2 f3;obtain⟨-,e0,e1,e2,e3,e4,e5,f0,f1,f2,f3⟩:=qy HX.out HE0.out.1 HE0.out.2.1 HE0.out.2.2.1 HE0.out.2.2.2 hbA)
   have HKP:=zxi (fun W' (hBW:Below W0.heap.size W0 W')=>(show zE W0 w.heap.size r (fun w'=>w'.cell? ⟨b0,0,none⟩=some (.int .i64 (c:Int))∧w'.cell? ⟨b1,0,none⟩=some (.bool head)∧w'.cell? ⟨b2,0,none⟩=some (.func (.func 110) #[] #[])∧w'.cell? ⟨b3,0,none⟩=some (.func (.func 111) #[] #[.pointer (some ⟨b1,0,none⟩)])) W' from by exact qy HX.out HE0.out.1 HE0.out.2.1 HE0.out.2.2.1 HE0.out.2.2.2 hBW))
   refine zHD HKP fun hHeld=>?_
   refine zTk 0 (h:=?_)
   refine zTk 1 (h:=?_)
   refine zTk 2 (h:=?_)
   refine zTk 3 (h:=?_)
   refine zTk 4 (h:=?_)
   refine zTk 5 (h:=?_)
   refine zTk 6 (h:=?_)
   refine zTk 7 (h:=?_)
   refine zTk 8 (h:=?_)
   refine zTk 9 (h:=?_)
   refine zTk 10 (h:=?_)
   refine zTk 12 (h:=?_)
   refine zTk 13 (h:=?_)
   refine zTk 14 (h:=?_)
   refine zRd 11 (h:=fun KK hKK=>?_)
   go_simp
   (refine(aE _ _ _).mono ?_;rintro e wB ⟨⟨lb1,rfl,hE1⟩,hbB⟩)
   (try go_wp2_with fail)
   refine zKK hKK HKP fun hHeld2=>?_;clear hKK KK hHeld;rename _=>hHeld
   refine zRd 15 (h:=fun KK hKK=>?_)
   go_simp
   (refine(aE _ _ _).mono ?_;rintro e wC ⟨⟨lb2,rfl,hE2⟩,hbC⟩)
   (try go_wp2_with fail)
   refine zKK hKK HKP fun hHeld2=>?_;clear hKK KK hHeld;rename _=>hHeld
   refine zRd 16 (h:=fun KK hKK=>?_)
   go_simp
   refine zKK hKK HKP fun hHeld2=>?_;clear hKK KK hHeld;rename _=>hHeld
   refine zRd 17 (h:=fun KK hKK=>?_)
   go_simp
   (refine((zb HS) _ _ _ [RR (eC L head),RR (eC (L+1) head)] (SortsAt.lit (vs:=[_,_]) (qG zxs) ⟨HV.out _ _ _ _ L hE1 rfl zxo zxo zxq zxq,HV.out _ _ _ _ (L+1) hE2 (by first | omega | (rw[hwr];omega)) zxo zxo zxq zxq,trivial⟩)).mono ?_;rintro e wD ⟨rfl,hbD⟩)
   exact qro
 · have j1:¬ (c:Int)≤(L:Int):=by omega
   have j2:decide ((c:Int)≤(L:Int))=false:=decide_eq_false j1
   go_enter Tryz.func112,Tryz.ntmps112
   go_wp2_with (go_at_call 113;go_must (rw[show w.alloc (.cells #[.int .i64 r.kind,.int .i64 r.fr,.int .i64 r.en,.int .i64 r.at_,.string r.name,.slice r.A r.n r.cap] 24)=W0 from hW0];refine HT.out.mono ?_);rintro e wA ⟨rfl,hbA⟩;clear e0 e1 e2 e3 e4 e5 f0 f1 f2 f3;obtain⟨-,e0,e1,e2,e3,e4,e5,f0,f1,f2,f3⟩:=qy HX.out HE0.out.1 HE0.out.2.1 HE0.out.2.2.1 HE0.out.2.2.2 hbA)
   have HKP:=zxi (fun W' (hBW:Below W0.heap.size W0 W')=>(show zE W0 w.heap.size r (fun w'=>w'.cell? ⟨b0,0,none⟩=some (.int .i64 (c:Int))∧w'.cell? ⟨b1,0,none⟩=some (.bool head)∧w'.cell? ⟨b2,0,none⟩=some (.func (.func 110) #[] #[])∧w'.cell? ⟨b3,0,none⟩=some (.func (.func 111) #[] #[.pointer (some ⟨b1,0,none⟩)])) W' from by exact qy HX.out HE0.out.1 HE0.out.2.1 HE0.out.2.2.1 HE0.out.2.2.2 hBW))
   refine zHD HKP fun hHeld=>?_
   refine zTk 0 (h:=?_)
   refine zTk 1 (h:=?_)
   refine zTk 2 (h:=?_)
   refine zTk 3 (h:=?_)
   refine zTn 4 (h:=?_)
   refine zTn 5 (h:=?_)
   refine zTk 6 (h:=?_)
   refine zTk 7 (h:=?_)
   refine zTn 8 (h:=?_)
   refine zTn 9 (h:=?_)
   refine zTn 10 (h:=?_)
   refine zTn 11 (h:=?_)
   refine zTn 12 (h:=?_)
   refine zTn 13 (h:=?_)
   exact qr0
theorem qwd (x:Tree) (hk:∀ y∈x.kids,EOk y) (hkd:x.kind=32):EOk x:=by
 rintro k c head rfl h1c h7c w lb ⟨b0,b1,b2,b3,rfl,g0,g1,g2,g3⟩ hG r hm hc
 have HE0:=zxi (And.intro (qb (o':=qd r) g0) (And.intro (qb (o':=qd r) g1) (And.intro (qb (o':=qd r) g2) (qb (o':=qd r) g3))))
 have hG0:=hG.alloc (qd r)
 have hm0:=hm.boxed zxn (qd r)
 have HX:=zxi (heap_alloc_new w (qd r))
 have HB:=zxi ((Below.refl w.heap.size w).alloc zxn (qd r))
 obtain⟨W0,hW0⟩:∃ W0,w.alloc (qd r)=W0:=⟨_,rfl⟩
 rw[hW0] at hG0 hm0 HX HB HE0
 have hrk:r.kind=32:=by rw[hm.kind];exact hkd
 have hname:r.name.data.toList=x.name:=by rw[hm.name,qj]
 obtain⟨-,e0,e1,e2,e3,e4,e5,f0,f1,f2,f3⟩:=qy HX.out HE0.out.1 HE0.out.2.1 HE0.out.2.2.1 HE0.out.2.2.2 (Below.refl _ _)
 have HS:=zxi (fun W (hb:Below W0.heap.size W0 W) A n cc Ps (hS:SortsAt W A n Ps x.kids)=>QO x r W (hm0.after zxn hb) r.kind A n cc Ps hS hc)
 have HT:=zxi (fun W (hb:Below W0.heap.size W0 W)=>JJ r.name ⟨#[105,110,116,32,102,108,111,97,116,54,52,32,108,101,110,32,112,114,105,110,116,32,112,97,110,105,99]⟩ builtW 5 rfl (by decide +kernel) zxd (by decide +kernel) zxd W (hG0.below hb))
 rw[hname] at HT
 have HA:=zxi (fun W (hb:Below W0.heap.size W0 W)=>qmy x r W (hm0.after zxn hb) 110 #[] hc)
 have HR:=zxi (fun(W:World) (hb:Below W0.heap.size W0 W) (g:Nat) (hg:W.heap[g]?=some (.cells (List.replicate x.kids.length (.func (.func 110) #[] #[])).toArray 64 (0,0)))=>SortsAt.rep (P:=RR 101) (l:=x.kids) hg (fun y hy=>(qcT y (hk y hy)).sort (fun args w=>by rfl) (hG0.below hb) (qk hc hy)))
 have hv:RR (eC c head) x=(jp builtW x.name&&(decide (x.kind=r.kind)&&qx (List.replicate x.kids.length (RR 101)) x.kids)):=by
  rw[hrk]
  obtain⟨k,f,e,a,n,l⟩:=x
  change k=32 at hkd
  subst hkd
  show isR qc qw _ (eC c head)=(jp builtW n&&(decide ((32:Int)=32)&&qx (List.replicate l.length (RR 101)) l))
  rw[isE qc qw _ _ _ _ _ _ c head h1c h7c,jm]
  simp[QX,jp]
 generalize RR (eC c head) x=B at *
 generalize jp builtW x.name=Bt at *
 generalize hbs:(decide (x.kind=r.kind)&&qx (List.replicate x.kids.length (RR 101)) x.kids)=Bs at *
 subst hv
 have q31:(r.kind == 31)=false:=by simp[hrk]
 have q30:(r.kind == 30)=false:=by simp[hrk]
 have q21:(r.kind == 21)=false:=by simp[hrk]
 have q22:(r.kind == 22)=false:=by simp[hrk]
 have q23:(r.kind == 23)=false:=by simp[hrk]
 have q24:(r.kind == 24)=false:=by simp[hrk]
 have q25:(r.kind == 25)=false:=by simp[hrk]
 have q33:(r.kind == 33)=false:=by simp[hrk]
 have q26:(r.kind == 26)=false:=by simp[hrk]
 have q32:(r.kind == 32)=true:=by simp[hrk]
 have q27:(r.kind == 27)=false:=by simp[hrk]
 have q28:(r.kind == 28)=false:=by simp[hrk]
 clear hk hkd hrk hG hm hc hG0 hm0 g0 g1 g2 g3 hname
 show Calls Tryz.prog 112 #[r.val,.pointer (some ⟨b0,0,none⟩),.pointer (some ⟨b1,0,none⟩),.pointer (some ⟨b2,0,none⟩),.pointer (some ⟨b3,0,none⟩)] w _
 unfold RN.val at HS HA ⊢
 cases Bt with
 | true =>
  go_enter Tryz.func112,Tryz.ntmps112
  go_wp2_with fail
  rw[show w.alloc (.cells #[.int .i64 r.kind,.int .i64 r.fr,.int .i64 r.en,.int .i64 r.at_,.string r.name,.slice r.A r.n r.cap] 24)=W0 from hW0]
  have HKP:=zxi (fun W' (hBW:Below W0.heap.size W0 W')=>(show zE W0 w.heap.size r (fun w'=>w'.cell? ⟨b0,0,none⟩=some (.int .i64 (c:Int))∧w'.cell? ⟨b1,0,none⟩=some (.bool head)∧w'.cell? ⟨b2,0,none⟩=some (.func (.func 110) #[] #[])∧w'.cell? ⟨b3,0,none⟩=some (.func (.func 111) #[] #[.pointer (some ⟨b1,0,none⟩)])) W' from by exact qy HX.out HE0.out.1 HE0.out.2.1 HE0.out.2.2.1 HE0.out.2.2.2 hBW))
  refine zHD HKP fun hHeld=>?_
  refine zTk 0 (h:=?_)
  refine zTk 1 (h:=?_)
  refine zRd 2 (h:=fun KK hKK=>?_)
  go_simp
  (refine(zb HT).mono ?_;rintro e wA ⟨rfl,hbA⟩)
  (try go_wp2_with fail)
  refine zKK hKK HKP fun hHeld2=>?_;clear hKK KK hHeld;rename _=>hHeld
  refine zTk 3 (h:=?_)
  refine zTk 4 (h:=?_)
  refine zTk 5 (h:=?_)
  refine zTk 6 (h:=?_)
  refine zTk 7 (h:=?_)
  refine zTk 8 (h:=?_)
  refine zRd 9 (h:=fun KK hKK=>?_)
  go_simp
  (refine(zb HA).mono ?_;rintro e wB ⟨⟨g,rfl,hg,hrow⟩,hbB⟩)
  (try go_wp2_with fail)
  refine zKK hKK HKP fun hHeld2=>?_;clear hKK KK hHeld;rename _=>hHeld
  refine zRd 10 (h:=fun KK hKK=>?_)
  go_simp
  (refine((zb HS) _ _ _ _ ((zb HR) _ hrow)).mono ?_;rintro e wC ⟨rfl,hbC⟩)
  (try go_wp2_with fail)
  refine zKK hKK HKP fun hHeld2=>?_;clear hKK KK hHeld;rename _=>hHeld
  refine zTk 11 (h:=?_)
  refine zTk 12 (h:=?_)
  exact qe1
 | false =>
  go_enter Tryz.func112,Tryz.ntmps112
  go_wp2_with fail
  rw[show w.alloc (.cells #[.int .i64 r.kind,.int .i64 r.fr,.int .i64 r.en,.int .i64 r.at_,.string r.name,.slice r.A r.n r.cap] 24)=W0 from hW0]
  have HKP:=zxi (fun W' (hBW:Below W0.heap.size W0 W')=>(show zE W0 w.heap.size r (fun w'=>w'.cell? ⟨b0,0,none⟩=some (.int .i64 (c:Int))∧w'.cell? ⟨b1,0,none⟩=some (.bool head)∧w'.cell? ⟨b2,0,none⟩=some (.func (.func 110) #[] #[])∧w'.cell? ⟨b3,0,none⟩=some (.func (.func 111) #[] #[.pointer (some ⟨b1,0,none⟩)])) W' from by exact qy HX.out HE0.out.1 HE0.out.2.1 HE0.out.2.2.1 HE0.out.2.2.2 hBW))
  refine zHD HKP fun hHeld=>?_
  refine zTk 0 (h:=?_)
  refine zTk 1 (h:=?_)
  refine zRd 2 (h:=fun KK hKK=>?_)
  go_simp
  (refine(zb HT).mono ?_;rintro e wA ⟨rfl,hbA⟩)
  (try go_wp2_with fail)
  refine zKK hKK HKP fun hHeld2=>?_;clear hKK KK hHeld;rename _=>hHeld
  refine zTk 3 (h:=?_)
  refine zTn 4 (h:=?_)
  refine zTn 5 (h:=?_)
  refine zTn 6 (h:=?_)
  refine zTn 7 (h:=?_)
  refine zTn 8 (h:=?_)
  refine zTn 9 (h:=?_)
  refine zTn 10 (h:=?_)
  refine zTk 11 (h:=?_)
  refine zTk 12 (h:=?_)
  exact qe1
theorem quT (x:Tree) (hkd31:x.kind≠31) (hkd30:x.kind≠30) (hkd21:x.kind≠21) (hkd22:x.kind≠22) (hkd23:x.kind≠23) (hkd24:x.kind≠24) (hkd25:x.kind≠25) (hkd33:x.kind≠33) (hkd26:x.kind≠26) (hkd32:x.kind≠32) (hkd27:x.kind≠27) (hkd28:x.kind≠28):EOk x:=by
 rintro k c head rfl h1c h7c w lb ⟨b0,b1,b2,b3,rfl,g0,g1,g2,g3⟩ hG r hm hc
 have HE0:=zxi (And.intro (qb (o':=qd r) g0) (And.intro (qb (o':=qd r) g1) (And.intro (qb (o':=qd r) g2) (qb (o':=qd r) g3))))
 have hG0:=hG.alloc (qd r)
 have hm0:=hm.boxed zxn (qd r)
 have HX:=zxi (heap_alloc_new w (qd r))
 have HB:=zxi ((Below.refl w.heap.size w).alloc zxn (qd r))
 obtain⟨W0,hW0⟩:∃ W0,w.alloc (qd r)=W0:=⟨_,rfl⟩
 rw[hW0] at hG0 hm0 HX HB HE0
 have hname:r.name.data.toList=x.name:=by rw[hm.name,qj]
 obtain⟨-,e0,e1,e2,e3,e4,e5,f0,f1,f2,f3⟩:=qy HX.out HE0.out.1 HE0.out.2.1 HE0.out.2.2.1 HE0.out.2.2.2 (Below.refl _ _)
 have hrk31:r.kind≠31:=by rw[hm.kind];exact hkd31
 have hrk30:r.kind≠30:=by rw[hm.kind];exact hkd30
 have hrk21:r.kind≠21:=by rw[hm.kind];exact hkd21
 have hrk22:r.kind≠22:=by rw[hm.kind];exact hkd22
 have hrk23:r.kind≠23:=by rw[hm.kind];exact hkd23
 have hrk24:r.kind≠24:=by rw[hm.kind];exact hkd24
 have hrk25:r.kind≠25:=by rw[hm.kind];exact hkd25
 have hrk33:r.kind≠33:=by rw[hm.kind];exact hkd33
 have hrk26:r.kind≠26:=by rw[hm.kind];exact hkd26
 have hrk32:r.kind≠32:=by rw[hm.kind];exact hkd32
 have hrk27:r.kind≠27:=by rw[hm.kind];exact hkd27
 have hrk28:r.kind≠28:=by rw[hm.kind];exact hkd28
 have hv:RR (eC c head) x=false:=by
  obtain⟨k,f,e,a,n,l⟩:=x
  change k≠31 at hkd31
  change k≠30 at hkd30
  change k≠21 at hkd21
  change k≠22 at hkd22
  change k≠23 at hkd23
  change k≠24 at hkd24
  change k≠25 at hkd25
  change k≠33 at hkd33
  change k≠26 at hkd26
  change k≠32 at hkd32
  change k≠27 at hkd27
  change k≠28 at hkd28
  show isR qc qw _ (eC c head)=false
  rw[isE qc qw _ _ _ _ _ _ c head h1c h7c]
  simp[QX,hkd31,hkd30,hkd21,hkd22,hkd23,hkd24,hkd25,hkd33,hkd26,hkd32,hkd27,hkd28]
 generalize RR (eC c head) x=B at *
 subst hv
 have q31:(r.kind == 31)=false:=beq_eq_false_iff_ne.2 hrk31
 have q30:(r.kind == 30)=false:=beq_eq_false_iff_ne.2 hrk30
 have q21:(r.kind == 21)=false:=beq_eq_false_iff_ne.2 hrk21
 have q22:(r.kind == 22)=false:=beq_eq_false_iff_ne.2 hrk22
 have q23:(r.kind == 23)=false:=beq_eq_false_iff_ne.2 hrk23
 have q24:(r.kind == 24)=false:=beq_eq_false_iff_ne.2 hrk24
 have q25:(r.kind == 25)=false:=beq_eq_false_iff_ne.2 hrk25
 have q33:(r.kind == 33)=false:=beq_eq_false_iff_ne.2 hrk33
 have q26:(r.kind == 26)=false:=beq_eq_false_iff_ne.2 hrk26
 have q32:(r.kind == 32)=false:=beq_eq_false_iff_ne.2 hrk32
 have q27:(r.kind == 27)=false:=beq_eq_false_iff_ne.2 hrk27
 have q28:(r.kind == 28)=false:=beq_eq_false_iff_ne.2 hrk28
 clear hkd31 hrk31 hkd30 hrk30 hkd21 hrk21 hkd22 hrk22 hkd23 hrk23 hkd24 hrk24 hkd25 hrk25 hkd33 hrk33 hkd26 hrk26 hkd32 hrk32 hkd27 hrk27 hkd28 hrk28 hG hm hc hG0 hm0 g0 g1 g2 g3 hname
 exact qmT
def FV (w:World) (lb:Array Value) (head:Bool):Prop:=∃ b b1,lb=#[.pointer (some ⟨b,0,none⟩)]∧w.heap[b]?=some (.cells #[.func (.func 111) #[] #[.pointer (some ⟨b1,0,none⟩)]] 64 (0,0))∧w.heap[b1]?=some (.cells #[.bool head] 4 (0,0))
def KV (w:World) (lb:Array Value):Prop:=∃ b,lb=#[.pointer (some ⟨b,0,none⟩)]∧w.heap[b]?=some (.cells #[.func (.func 110) #[] #[]] 64 (0,0))
theorem FV.later {w w':World} {lb:Array Value} {head:Bool} (h:FV w lb head) (hb:Below w.heap.size w w'):FV w' lb head:=by
 obtain⟨b,b1,e,h1,h2⟩:=h
 exact⟨b,b1,e,qg h1 hb,qg h2 hb⟩
theorem KV.later {w w':World} {lb:Array Value} (h:KV w lb) (hb:Below w.heap.size w w'):KV w' lb:=by
 obtain⟨b,e,h1⟩:=h
 exact⟨b,e,qg h1 hb⟩
def qhe (head:Bool):Nat:=if head then 1020 else 20
theorem qvh (head:Bool) (k f e a:Int) (n:BL) (l:List Tree):isR qc qw (.mk k f e a n l) (qhe head)=((decide (k=25)||decide (k=26))&&isR qc qw (.mk k f e a n l) (eC 7 head)):=by
 cases head
 · exact qrq qc qw k f e a n l
 · exact qkM qc qw k f e a n l
theorem qwh {w0:World} {lb:Array Value} {head:Bool} (hF:FV w0 lb head) (hGG:LexG w0) {y:Tree} (hy:EOk y) (hc:qY y≤3000):Q5 (.func (.func 136) #[] lb) (RR (qhe head)) w0 y:=by
 obtain⟨b,b1,rfl,h1,h2⟩:=hF
 refine⟨136,_,rfl,fun args w=>by rfl,fun w r hW hm=>?_⟩
 have hb0:=(Below.refl w.heap.size w).alloc zxn (qd r)
 obtain⟨_,_,hg,eg,hO⟩:=(qd1 (qg h2 hW) (hGG.below hW) hy hc)
 injection hg with hg1 hg2 hg3
 injection hg1 with hg1
 subst hg1 hg3
 have HO:=zxi (hO _ r hb0 (hm.boxed zxn _))
 have HB:=zxi hb0
 obtain⟨u0,_,v0⟩:=jf (qg h1 hW)
 have hv:RR (qhe head) y=((decide (r.kind=25)||decide (r.kind=26))&&RR (eC 7 head) y):=by
  rw[hm.kind]
  obtain⟨k,f,e,a,n,l⟩:=y
  exact qvh head k f e a n l
 generalize RR (qhe head) y=B at *
 generalize RR (eC 7 head) y=B7 at *
 subst hv
 clear hm hc h1 h2 hGG hW hb0 hO
 have eg2:∀ args w,(callFunc 111 args).run Tryz.prog w = .ok (.enter 111 args) w:=fun args w=>by rfl
 show Calls Tryz.prog 136 #[r.val,.pointer (some ⟨b,0,none⟩)] w _
 unfold RN.val at HO ⊢
 by_cases k25:r.kind=25
 · have b25:(r.kind == 25)=true:=by simp[k25]
   have d25:decide (r.kind=25)=true:=by simp[k25]
   clear k25
   exact qsK
 · have b25:(r.kind == 25)=false:=by simp[k25]
   have d25:decide (r.kind=25)=false:=by simp[k25]
   clear k25
   by_cases k26:r.kind=26
   · have b26:(r.kind == 26)=true:=by simp[k26]
     have d26:decide (r.kind=26)=true:=by simp[k26]
     clear k26
     exact qsK
   · have b26:(r.kind == 26)=false:=by simp[k26]
     have d26:decide (r.kind=26)=false:=by simp[k26]
     clear k26
     go_enter Tryz.func136,Tryz.ntmps136
     go_wp2_with fail
     go_ret
     exact⟨qi (by simp[*]),HB.out⟩
def qdr (y:Tree):Prop:=∀ (W:World) (lb:Array Value),KV W lb→LexG W→∀ (r:RN),NodeM W W.heap.size y r→qY y≤3000 →
 Calls Tryz.prog 137 (#[r.val]++lb) W fun e w'=>e = .returned (.bool (RR 19 y))∧Below W.heap.size W w'
theorem KV.sort {w:World} {lb:Array Value} (h:KV w lb) (hG:LexG w) {y:Tree} (hy:qdr y) (hc:qY y≤3000):Q5 (.func (.func 137) #[] lb) (RR 19) w y :=
 ⟨137,lb,rfl,fun args w=>by rfl,fun W rx hW hm=>hy W lb (h.later hW) (hG.below hW) rx hm hc⟩
theorem qpg (y:Tree) (hk:∀ z∈y.kids,EOk z):qdr y:=by
 rintro w lb ⟨b,rfl,h1⟩ hG r hm hc
 have hb0:=Jk w (qd r) (.cells #[.func (.func 110) #[] #[]] 64)
 have hG2:=hG.below hb0
 have hrow:=heap_alloc_new (w.alloc (qd r)) (.cells #[.func (.func 110) #[] #[]] 64)
 rw[World.size_alloc] at hrow
 have HT:=zxi (jy y r ((w.alloc (qd r)).alloc (.cells #[.func (.func 110) #[] #[]] 64)) (hm.boxed2 _ _) 29 (some ⟨w.heap.size+1,0,none⟩) 1 1 [RR 101] (SortsAt.lit (vs:=[.func (.func 110) #[] #[]]) hrow ⟨fun z hz=>(qcT z (hk z hz)).sort (fun args w=>by rfl) hG2 (qk hc hz),trivial⟩) hc)
 have hv:(qc y.name&&decide (y.kind=29)&&qx [RR 101] y.kids)=RR 19 y:=by
  obtain⟨k,f,e,a,n,l⟩:=y
  show(qc n&&decide (k=29)&&qx [RR 101] l)=isR qc qw (.mk k f e a n l) 19
  rw[qqB]
 rw[hv] at HT
 generalize RR 19 y=B at *
 have HB:=zxi hb0
 obtain⟨u0,_,v0⟩:=jf h1
 clear hm hc h1 hG hG2 hb0 hv hrow hk
 show Calls Tryz.prog 137 #[r.val,.pointer (some ⟨b,0,none⟩)] w _
 unfold RN.val at HT ⊢
 go_enter Tryz.func137,Tryz.ntmps137
 go_wp2_with (go_at_call 58;refine HT.out.mono ?_;rintro e wA ⟨rfl,hbA⟩)
 exact qf7
theorem qbj (w:World) (r:RN) (v1 v2:Value):∃ W0,((w.alloc (qd r)).alloc (.cells #[v1] 64)).alloc (.cells #[v2] 64)=W0∧Below w.heap.size w W0∧W0.heap.size=w.heap.size+3∧W0.heap[w.heap.size]?=some (qd r)∧W0.heap[w.heap.size+1]?=some (.cells #[v1] 64 (0,0))∧W0.heap[w.heap.size+1+1]?=some (.cells #[v2] 64 (0,0)) :=
 ⟨_,rfl,qt (qt (qt (Below.refl _ _))),by simp[World.size_alloc],qb (qb (heap_alloc_new _ _)),qb (qG zxs),qG zxs⟩
theorem SortsAt.first {w W:World} {g m:Nat} {u v:Value} {P Q:Tree→Bool} {y:Tree} {l:List Tree} (h:w.heap[g]?=some (.cells (List.replicate m v).toArray 64 (0,0))) (hm:m=l.length+1)
  (hW:(w.setCell ⟨g,0,none⟩ u)=W) (hu:Q5 u Q W y) (hv:∀ z∈l,Q5 v P W z):SortsAt W (some ⟨g,0,none⟩) m (Q::List.replicate l.length P) (y::l):=by
 subst hm
 have hrow:W.heap[g]?=some (.cells (u::List.replicate l.length v).toArray 64 (0,0)):=by
  rw[← hW,qU h]
  simp[List.replicate_succ]
 refine⟨u::List.replicate l.length v,fun _=>⟨g,0,rfl,(Array.getElem?_eq_some_iff.1 hrow).1,fun i x hx j u' hu'=>?_⟩,by simp,by simp,fun i u' Q' x hu' hQ hx=>?_⟩
 · cases j with
   | zero =>
    cases hu'
    rw[cell_of_row _ _ _ _ _ _ hrow,List.getElem?_toArray]
    simpa using hx
   | succ j=>simp at hu'
 · cases i with
   | zero=>cases hu';cases hQ;cases hx;exact hu
   | succ i =>
    simp only[List.getElem?_cons_succ] at hu' hQ hx
    have hi:i<l.length:=(List.getElem?_eq_some_iff.1 hx).1
    rw[List.getElem?_replicate,if_pos hi] at hu' hQ
    cases hu';cases hQ
    exact hv x (List.mem_of_getElem? hx)
theorem qbe {w:World} {g m:Nat} {v:Value} (hm:(0:Int)<(m:Int)) (h:w.heap[g]?=some (.cells (List.replicate m v).toArray 64 (0,0))):w.cell? ⟨g,0,none⟩=some v∧w.frozen? ⟨g,0,none⟩=false∧g<w.heap.size:=by
 have h0:0<m:=by omega
 refine⟨?_,?_,(Array.getElem?_eq_some_iff.1 h).1⟩
 · rw[cell_of_row _ _ _ _ _ _ h,List.getElem?_toArray]
   simp[h0]
 · simp[World.frozen?,h]
theorem qkY (x:Tree) (y:Tree) (l:List Tree) (hkids:x.kids=y::l) (r:RN) (w:World) (head:Bool) (hk:∀ z∈x.kids,EOk z) (hkd:x.kind=27) (b1:Nat) (h1:w.heap[b1]?=some (.cells #[.bool head] 4 (0,0))) (hG:LexG w) (hm:NodeM w w.heap.size x r) (hc:qY x≤3000) :
  Calls Tryz.prog 115 #[r.val,.bool head,.func (.func 110) #[] #[],.func (.func 111) #[] #[.pointer (some ⟨b1,0,none⟩)]] w fun e w'=>e = .returned (.bool (x.name.isEmpty&&(RR (qhe head) y&&l.all (RR 101))))∧Below w.heap.size w w':=by
 obtain⟨W0,hW0,hb0,hsz,hx0,hi0,ho0⟩:=qbj w r (.func (.func 110) #[] #[]) (.func (.func 111) #[] #[.pointer (some ⟨b1,0,none⟩)])
 have hm0:=hm.after zxn hb0
 have hG0:=hG.below hb0
 have h10:=qg h1 hb0
 have hFV:FV W0 #[.pointer (some ⟨w.heap.size+1+1,0,none⟩)] head:=⟨_,_,rfl,ho0,h10⟩
 have hlen:x.kids.length=l.length+1:=by rw[hkids];rfl
 have hrk:r.kind=27:=by rw[hm.kind];exact hkd
 have HA:=zxi (qmy x r W0 hm0 110 #[] hc)
 have HP:=zxi (fun(wA W:World) (g:Nat) (hbA:Below W0.heap.size W0 wA) (hge:W0.heap.size≤g) (hrow:wA.heap[g]?=some (.cells (List.replicate x.kids.length (.func (.func 110) #[] #[])).toArray 64 (0,0)))
   (hW:wA.setCell ⟨g,0,none⟩ (.func (.func 136) #[] #[.pointer (some ⟨w.heap.size+1+1,0,none⟩)])=W) =>
  have hbW:Below W0.heap.size W0 W:=by rw[← hW];exact hbA.setCell (p:=⟨g,0,none⟩) hge _
  And.intro hbW (Qj x r W (hm0.after zxn hbW) r.kind (some ⟨g,0,none⟩) x.kids.length x.kids.length (RR (qhe head)::List.replicate l.length (RR 101))
   (by
    have:=SortsAt.first hrow hlen hW (qwh (hFV.later hbW) (hG0.below hbW) (hk y (by rw[hkids];simp)) (qk hc (by rw[hkids];simp)))
     (fun z hz=>(qcT z (hk z (by rw[hkids];simp[hz]))).sort (fun args w=>by rfl) (hG0.below hbW) (qk hc (by rw[hkids];simp[hz])))
    rwa [← hkids] at this) hc))
 have hv:(x.name.isEmpty&&decide (x.kind=r.kind)&&qx (RR (qhe head)::List.replicate l.length (RR 101)) x.kids)=(x.name.isEmpty&&(RR (qhe head) y&&l.all (RR 101))):=by
  rw[hrk,hkd,hkids,qx,jm]
  simp
 rw[hv] at HP
 generalize (x.name.isEmpty&&(RR (qhe head) y&&l.all (RR 101)))=B at *
 obtain⟨m,hmm⟩:∃ m,m=x.kids.length:=⟨_,rfl⟩
 rw[← hmm] at HA HP
 have p0:(0:Int)<(m:Int):=by omega
 have HB:=zxi hb0
 have HX:=zxi (And.intro hx0 (And.intro hi0 (And.intro ho0 hsz)))
 obtain⟨-,e0,e1,e2,e3,e4,e5⟩:=qh HX.out.1 (Below.refl _ _)
 obtain⟨u6,_,v6⟩:=jf HX.out.2.1
 obtain⟨u7,_,v7⟩:=jf HX.out.2.2.1
 have q28:(r.kind == 28)=false:=by simp[hrk]
 clear hv hrk hkd hk hm hc hG hm0 hG0 h10 h1 hFV hkids hlen hmm hb0 hx0 hi0 ho0 hsz
 unfold RN.val at HA HP ⊢
 unfold qd at hW0
 go_enter Tryz.func115,Tryz.ntmps115
 go_wp2_with (first | (go_at_call 55;go_must (refine HA.out.mono ?_);rintro e wA ⟨⟨g,rfl,hg,hrow⟩,hbA⟩;obtain⟨c0,c1,c2⟩:=qbe p0 hrow;obtain⟨W2,hW2⟩:∃ W2,wA.setCell ⟨g,0,none⟩ (.func (.func 136) #[] #[.pointer (some ⟨w.heap.size+1+1,0,none⟩)])=W2:=⟨_,rfl⟩;have hp:=HP.out wA W2 g hbA hg hrow hW2;have HPP:=zxi hp.2;have HBW:=zxi hp.1;clear e0 e1 e2 e3 e4 e5 u6 v6 u7 v7 hg hrow;obtain⟨-,e0,e1,e2,e3,e4,e5⟩:=qh HX.out.1 hp.1;clear hp) | (go_at_call 83;go_must (refine HPP.out.mono ?_);rintro e wB ⟨rfl,hbB⟩;have HBX:=zxi (qa HB.out (qa HBW.out hbB));clear e0 e1 e2 e3 e4 e5;obtain⟨-,e0,e1,e2,e3,e4,e5⟩:=qh HX.out.1 (qa HBW.out hbB)))
 all_goals go_ret
 all_goals exact⟨qi (by simp[*]),HBX.out⟩
theorem qxr (y:Tree):Qh [RR 7,qj0] y=RR 9 y:=by
 obtain⟨k,f,e,a,n,l⟩:=y
 show(isR qc qw (.mk k f e a n l) 7||((qc n&&decide (k=9)&&qx [fun t=>isR qc qw t 17] l)||false))=isR qc qw (.mk k f e a n l) 9
 rw[qvV,Bool.or_false,Bool.and_comm (qc n)]
def own2:List Value:=[.func (.func 82) #[] #[],.func (.func 85) #[] #[]]
theorem qho {W0 wC wD W:World} {g m:Nat} {lb lk:Array Value} {y:Tree} {l:List Tree} (hG0:LexG W0) (hbC:Below W0.heap.size W0 wC) (hge:W0.heap.size≤g) (hm:m=l.length+1)
  (hrow:wC.heap[g]?=some (.cells (List.replicate m (.func (.func 137) #[] lk)).toArray 64 (0,0))) (hbD:Below (wC.alloc (.cells own2.toArray 64)).heap.size (wC.alloc (.cells own2.toArray 64)) wD)
  (hv:OneV wD (.func (.func 79) #[] lb) (some ⟨wC.heap.size,0,none⟩) 2 2) (hW:wD.setCell ⟨g,0,none⟩ (.func (.func 79) #[] lb)=W) (hy:qY y≤3000) (hz:Below W0.heap.size W0 W→∀ z∈l,Q5 (.func (.func 137) #[] lk) (RR 19) W z) :
  Below W0.heap.size W0 W∧SortsAt W (some ⟨g,0,none⟩) m (RR 9::List.replicate l.length (RR 19)) (y::l):=by
 have hD:Below W0.heap.size W0 wD:=qa (qt hbC) hbD
 have hbW:Below W0.heap.size W0 W:=by rw[← hW];exact hD.setCell (p:=⟨g,0,none⟩) hge _
 have hrD:=qg (qb (o':=.cells own2.toArray 64) hrow) hbD
 have h2:=qg (heap_alloc_new wC (.cells own2.toArray 64)) hbD
 have hgC:g<wC.heap.size:=(Array.getElem?_eq_some_iff.1 hrow).1
 refine⟨hbW,SortsAt.first hrD hm hW ?_ (hz hbW)⟩
 rw[← (funext qxr:Qh [RR 7,qj0]=RR 9)]
 refine qry (A:=some ⟨wC.heap.size,0,none⟩) (n:=2) (c:=2) ?_ zxo (OneAt.lit (vs:=own2) ?_ ⟨fun x hx=>?_,fun x hx=>?_,trivial⟩)
 · obtain⟨bx,e,hbx⟩:=hv
   refine⟨bx,e,?_⟩
   rw[← hW,heap_setCell_other _ _ _ _ (fun hc=>?_)]
   · exact hbx
   · simp only at hc
     subst hc
     rw[hrD] at hbx
     simp only[Option.some.injEq,Obj.cells.injEq] at hbx
     exact absurd hbx.2.1 zxd
 · rw[← hW,heap_setCell_other _ _ _ _ (by simp only;omega)]
   exact h2
 · rw[List.mem_singleton.1 hx]
   exact(qnr y).sort (fun args w=>by rfl) (hG0.below hbW) hy
 · rw[List.mem_singleton.1 hx]
   exact(qqH y).sort (fun args w=>by rfl) (hG0.below hbW) hy
theorem qla (x:Tree) (y:Tree) (l:List Tree) (hkids:x.kids=y::l) (r:RN) (w:World) (head:Bool) (hk:∀ z∈x.kids,qdr z) (hkd:x.kind=28) (b1:Nat) (h1:w.heap[b1]?=some (.cells #[.bool head] 4 (0,0))) (hG:LexG w) (hm:NodeM w w.heap.size x r) (hc:qY x≤3000) :
  Calls Tryz.prog 115 #[r.val,.bool head,.func (.func 110) #[] #[],.func (.func 111) #[] #[.pointer (some ⟨b1,0,none⟩)]] w fun e w'=>e = .returned (.bool ((x.name.isEmpty&&(RR 9 y&&l.all (RR 19))) && !head))∧Below w.heap.size w w':=by
 obtain⟨W0,hW0,hb0,hsz,hx0,hi0,ho0⟩:=qbj w r (.func (.func 110) #[] #[]) (.func (.func 111) #[] #[.pointer (some ⟨b1,0,none⟩)])
 have hm0:=hm.after zxn hb0
 have hG0:=hG.below hb0
 have hKV:KV W0 #[.pointer (some ⟨w.heap.size+1,0,none⟩)]:=⟨_,rfl,hi0⟩
 have hlen:x.kids.length=l.length+1:=by rw[hkids];rfl
 have hrk:r.kind=28:=by rw[hm.kind];exact hkd
 have HA:=zxi (qmy x r W0 hm0 110 #[] hc)
 have HA2:=zxi (fun W (hb:Below W0.heap.size W0 W)=>qmy x r W (hm0.after zxn hb) 137 #[.pointer (some ⟨w.heap.size+1,0,none⟩)] hc)
 have HP:=zxi (fun(wC wD W:World) (g:Nat) (lb:Array Value) (hbC:Below W0.heap.size W0 wC) (hge:W0.heap.size≤g) (hrow:wC.heap[g]?=some (.cells (List.replicate x.kids.length (.func (.func 137) #[] #[.pointer (some ⟨w.heap.size+1,0,none⟩)])).toArray 64 (0,0)))
   (hbD:Below (wC.alloc (.cells own2.toArray 64)).heap.size (wC.alloc (.cells own2.toArray 64)) wD) (hv:OneV wD (.func (.func 79) #[] lb) (some ⟨wC.heap.size,0,none⟩) 2 2) (hW:wD.setCell ⟨g,0,none⟩ (.func (.func 79) #[] lb)=W) =>
  have h:=qho hG0 hbC hge hlen hrow hbD hv hW (qk hc (show y∈x.kids by rw[hkids];simp)) (fun hb z hz=>(hKV.later hb).sort (hG0.below hb) (hk z (by rw[hkids];simp[hz])) (qk hc (by rw[hkids];simp[hz])))
  And.intro h.1 (Qj x r W (hm0.after zxn h.1) r.kind (some ⟨g,0,none⟩) x.kids.length x.kids.length (RR 9::List.replicate l.length (RR 19)) (by have:=h.2;rwa [← hkids] at this) hc))
 have hv:(x.name.isEmpty&&decide (x.kind=r.kind)&&qx (RR 9::List.replicate l.length (RR 19)) x.kids)=(x.name.isEmpty&&(RR 9 y&&l.all (RR 19))):=by
  rw[hrk,hkd,hkids,qx,jm]
  simp
 rw[hv] at HP
 generalize (x.name.isEmpty&&(RR 9 y&&l.all (RR 19)))=B at *
 obtain⟨m,hmm⟩:∃ m,m=x.kids.length:=⟨_,rfl⟩
 rw[← hmm] at HA HA2 HP
 have p0:(0:Int)<(m:Int):=by omega
 have HB:=zxi hb0
 have HX:=zxi (And.intro hx0 (And.intro hi0 (And.intro ho0 hsz)))
 obtain⟨-,e0,e1,e2,e3,e4,e5⟩:=qh HX.out.1 (Below.refl _ _)
 obtain⟨u6,_,v6⟩:=jf HX.out.2.1
 have q28:(r.kind == 28)=true:=by simp[hrk]
 clear hv hrk hkd hk hm hc hG hm0 hG0 h1 hKV hkids hlen hmm hb0 hx0 hi0 ho0 hsz
 unfold RN.val at HA HA2 HP ⊢
 unfold qd at hW0
 unfold own2 at HP
 go_enter Tryz.func115,Tryz.ntmps115
 go_wp2_with (first | (go_at_call 55;have hq:=HBW.out;go_must (refine(HA2.out _ hq).mono ?_);clear hq;rintro e wC ⟨⟨g2,rfl,hg2,hrow2⟩,hbC⟩;have HC:=zxi (And.intro (Nat.le_trans HBW.out.size hg2) (And.intro hrow2 (qa HBW.out hbC)));clear hrow2 hg2 hbC hW2 c0 c1 c2) | (go_at_call 55;go_must (refine HA.out.mono ?_);rintro e wA ⟨⟨g,rfl,hg,hrow⟩,hbA⟩;obtain⟨c0,c1,c2⟩:=qbe p0 hrow;obtain⟨W2,hW2⟩:∃ W2,wA.setCell ⟨g,0,none⟩ (.func (.func 136) #[] #[.pointer (some ⟨w.heap.size+1+1,0,none⟩)])=W2:=⟨_,rfl⟩;have hp:Below W0.heap.size W0 W2:=(by rw[← hW2];exact hbA.setCell (p:=⟨g,0,none⟩) hg _);have HBW:=zxi hp;clear e0 e1 e2 e3 e4 e5 u6 v6 hg hrow;obtain⟨-,e0,e1,e2,e3,e4,e5⟩:=qh HX.out.1 hp;clear hp) | (go_at_call 67;go_must (refine(qfu _ _ _ _).mono ?_);rintro e wD ⟨⟨lb,rfl,hone⟩,hbD⟩;obtain⟨c0,c1,c2⟩:=qbe p0 (qg (qb (o':=.cells #[.func (.func 82) #[] #[],.func (.func 85) #[] #[]] 64) HC.out.2.1) hbD);obtain⟨W4,hW4⟩:∃ W4,wD.setCell ⟨g2,0,none⟩ (.func (.func 79) #[] lb)=W4:=⟨_,rfl⟩;have hp:=HP.out wC wD W4 g2 lb HC.out.2.2 HC.out.1 HC.out.2.1 hbD hone hW4;have HPP:=zxi hp.2;have HBX:=zxi hp.1;clear e0 e1 e2 e3 e4 e5 hone hbD;obtain⟨-,e0,e1,e2,e3,e4,e5⟩:=qh HX.out.1 hp.1;clear hp) | (go_at_call 83;go_must (refine HPP.out.mono ?_);rintro e wB ⟨rfl,hbB⟩;have HBZ:=zxi (qa HB.out (qa HBX.out hbB));clear e0 e1 e2 e3 e4 e5;obtain⟨-,e0,e1,e2,e3,e4,e5⟩:=qh HX.out.1 (qa HBX.out hbB)))
 all_goals go_ret
 all_goals exact⟨qi (by simp[*]),HBZ.out⟩
theorem NodeM.count {w:World} {B:Nat} {x:Tree} {r:RN} (h:NodeM w B x r):r.n=x.kids.length:=by
 obtain⟨k,f,e,a,n,l⟩:=x
 obtain⟨A',cap,rfl,hk⟩:=h.open2
 rfl
theorem qt5 (x:Tree) (hkids:x.kids=[]) (hkd:x.kind=27):EOk x:=by
 rintro k c head rfl h1c h7c w lb ⟨b0,b1,b2,b3,rfl,g0,g1,g2,g3⟩ hG r hm hc
 have HE0:=zxi (And.intro (qb (o':=qd r) g0) (And.intro (qb (o':=qd r) g1) (And.intro (qb (o':=qd r) g2) (qb (o':=qd r) g3))))
 have hG0:=hG.alloc (qd r)
 have hm0:=hm.boxed zxn (qd r)
 have HX:=zxi (heap_alloc_new w (qd r))
 have HB:=zxi ((Below.refl w.heap.size w).alloc zxn (qd r))
 obtain⟨W0,hW0⟩:∃ W0,w.alloc (qd r)=W0:=⟨_,rfl⟩
 rw[hW0] at hG0 hm0 HX HB HE0
 have hrk:r.kind=27:=by rw[hm.kind];exact hkd
 have hname:r.name.data.toList=x.name:=by rw[hm.name,qj]
 obtain⟨-,e0,e1,e2,e3,e4,e5,f0,f1,f2,f3⟩:=qy HX.out HE0.out.1 HE0.out.2.1 HE0.out.2.2.1 HE0.out.2.2.2 (Below.refl _ _)
 have hn:=hm.count
 have hv:RR (eC c head) x=false:=by
  obtain⟨k,f,e,a,n,l⟩:=x
  change k=27 at hkd
  exact qq3
 generalize RR (eC c head) x=B at *
 subst hv
 have n1:¬ (0:Int)<(r.n:Int):=by rw[hn,hkids];simp
 have n2:decide ((0:Int)<(r.n:Int))=false:=decide_eq_false n1
 have q31:(r.kind == 31)=false:=by simp[hrk]
 have q30:(r.kind == 30)=false:=by simp[hrk]
 have q21:(r.kind == 21)=false:=by simp[hrk]
 have q22:(r.kind == 22)=false:=by simp[hrk]
 have q23:(r.kind == 23)=false:=by simp[hrk]
 have q24:(r.kind == 24)=false:=by simp[hrk]
 have q25:(r.kind == 25)=false:=by simp[hrk]
 have q33:(r.kind == 33)=false:=by simp[hrk]
 have q26:(r.kind == 26)=false:=by simp[hrk]
 have q32:(r.kind == 32)=false:=by simp[hrk]
 have q27:(r.kind == 27)=true:=by simp[hrk]
 have q28:(r.kind == 28)=false:=by simp[hrk]
 clear hkids hn hkd hrk hG hm hc hG0 hm0 g0 g1 g2 g3 hname
 exact qmT
theorem qr2 (x:Tree) (y:Tree) (l:List Tree) (hkids:x.kids=y::l) (hk:∀ z∈x.kids,EOk z) (hkd:x.kind=27):EOk x:=by
 rintro k c head rfl h1c h7c w lb ⟨b0,b1,b2,b3,rfl,g0,g1,g2,g3⟩ hG r hm hc
 have HE0:=zxi (And.intro (qb (o':=qd r) g0) (And.intro (qb (o':=qd r) g1) (And.intro (qb (o':=qd r) g2) (qb (o':=qd r) g3))))
 have hG0:=hG.alloc (qd r)
 have hm0:=hm.boxed zxn (qd r)
 have HX:=zxi (heap_alloc_new w (qd r))
 have HB:=zxi ((Below.refl w.heap.size w).alloc zxn (qd r))
 obtain⟨W0,hW0⟩:∃ W0,w.alloc (qd r)=W0:=⟨_,rfl⟩
 rw[hW0] at hG0 hm0 HX HB HE0
 have hrk:r.kind=27:=by rw[hm.kind];exact hkd
 have hname:r.name.data.toList=x.name:=by rw[hm.name,qj]
 obtain⟨-,e0,e1,e2,e3,e4,e5,f0,f1,f2,f3⟩:=qy HX.out HE0.out.1 HE0.out.2.1 HE0.out.2.2.1 HE0.out.2.2.2 (Below.refl _ _)
 have hn:=hm.count
 have hv:RR (eC c head) x=(x.name.isEmpty&&(RR (qhe head) y&&l.all (RR 101))):=by
  obtain⟨k,f,e,a,n,l'⟩:=x
  change k=27 at hkd
  change l'=y::l at hkids
  subst hkd
  subst hkids
  show isR qc qw _ (eC c head)=(n.isEmpty&&(RR (qhe head) y&&l.all (RR 101)))
  exact qum
 have HT:=zxi (qkY x y l hkids r W0 head hk hkd b1 HE0.out.2.1 hG0 hm0 hc)
 rw[← hv] at HT
 generalize RR (eC c head) x=B at *
 have n1:(0:Int)<(r.n:Int):=by rw[hn,hkids];simp
 have n2:decide ((0:Int)<(r.n:Int))=true:=decide_eq_true n1
 obtain⟨u0,_,v0⟩:=jf g0
 obtain⟨u1,_,v1⟩:=jf g1
 obtain⟨u2,_,v2⟩:=jf g2
 obtain⟨u3,_,v3⟩:=jf g3
 have q31:(r.kind == 31)=false:=by simp[hrk]
 have q30:(r.kind == 30)=false:=by simp[hrk]
 have q21:(r.kind == 21)=false:=by simp[hrk]
 have q22:(r.kind == 22)=false:=by simp[hrk]
 have q23:(r.kind == 23)=false:=by simp[hrk]
 have q24:(r.kind == 24)=false:=by simp[hrk]
 have q25:(r.kind == 25)=false:=by simp[hrk]
 have q33:(r.kind == 33)=false:=by simp[hrk]
 have q26:(r.kind == 26)=false:=by simp[hrk]
 have q32:(r.kind == 32)=false:=by simp[hrk]
 have q27:(r.kind == 27)=true:=by simp[hrk]
 have q28:(r.kind == 28)=false:=by simp[hrk]
 exact qtP
theorem qsP (x:Tree) (hkids:x.kids=[]) (hkd:x.kind=28):EOk x:=by
 rintro k c head rfl h1c h7c w lb ⟨b0,b1,b2,b3,rfl,g0,g1,g2,g3⟩ hG r hm hc
 have HE0:=zxi (And.intro (qb (o':=qd r) g0) (And.intro (qb (o':=qd r) g1) (And.intro (qb (o':=qd r) g2) (qb (o':=qd r) g3))))
 have hG0:=hG.alloc (qd r)
 have hm0:=hm.boxed zxn (qd r)
 have HX:=zxi (heap_alloc_new w (qd r))
 have HB:=zxi ((Below.refl w.heap.size w).alloc zxn (qd r))
 obtain⟨W0,hW0⟩:∃ W0,w.alloc (qd r)=W0:=⟨_,rfl⟩
 rw[hW0] at hG0 hm0 HX HB HE0
 have hrk:r.kind=28:=by rw[hm.kind];exact hkd
 have hname:r.name.data.toList=x.name:=by rw[hm.name,qj]
 obtain⟨-,e0,e1,e2,e3,e4,e5,f0,f1,f2,f3⟩:=qy HX.out HE0.out.1 HE0.out.2.1 HE0.out.2.2.1 HE0.out.2.2.2 (Below.refl _ _)
 have hn:=hm.count
 have hv:RR (eC c head) x=false:=by
  obtain⟨k,f,e,a,n,l⟩:=x
  change k=28 at hkd
  exact qq3
 generalize RR (eC c head) x=B at *
 subst hv
 have n1:¬ (0:Int)<(r.n:Int):=by rw[hn,hkids];simp
 have n2:decide ((0:Int)<(r.n:Int))=false:=decide_eq_false n1
 have q31:(r.kind == 31)=false:=by simp[hrk]
 have q30:(r.kind == 30)=false:=by simp[hrk]
 have q21:(r.kind == 21)=false:=by simp[hrk]
 have q22:(r.kind == 22)=false:=by simp[hrk]
 have q23:(r.kind == 23)=false:=by simp[hrk]
 have q24:(r.kind == 24)=false:=by simp[hrk]
 have q25:(r.kind == 25)=false:=by simp[hrk]
 have q33:(r.kind == 33)=false:=by simp[hrk]
 have q26:(r.kind == 26)=false:=by simp[hrk]
 have q32:(r.kind == 32)=false:=by simp[hrk]
 have q27:(r.kind == 27)=false:=by simp[hrk]
 have q28:(r.kind == 28)=true:=by simp[hrk]
 clear hkids hn hkd hrk hG hm hc hG0 hm0 g0 g1 g2 g3 hname
 exact qmT
theorem qqX (x:Tree) (y:Tree) (l:List Tree) (hkids:x.kids=y::l) (hk:∀ z∈x.kids,qdr z) (hkd:x.kind=28):EOk x:=by
 rintro k c head rfl h1c h7c w lb ⟨b0,b1,b2,b3,rfl,g0,g1,g2,g3⟩ hG r hm hc
 have HE0:=zxi (And.intro (qb (o':=qd r) g0) (And.intro (qb (o':=qd r) g1) (And.intro (qb (o':=qd r) g2) (qb (o':=qd r) g3))))
 have hG0:=hG.alloc (qd r)
 have hm0:=hm.boxed zxn (qd r)
 have HX:=zxi (heap_alloc_new w (qd r))
 have HB:=zxi ((Below.refl w.heap.size w).alloc zxn (qd r))
 obtain⟨W0,hW0⟩:∃ W0,w.alloc (qd r)=W0:=⟨_,rfl⟩
 rw[hW0] at hG0 hm0 HX HB HE0
 have hrk:r.kind=28:=by rw[hm.kind];exact hkd
 have hname:r.name.data.toList=x.name:=by rw[hm.name,qj]
 obtain⟨-,e0,e1,e2,e3,e4,e5,f0,f1,f2,f3⟩:=qy HX.out HE0.out.1 HE0.out.2.1 HE0.out.2.2.1 HE0.out.2.2.2 (Below.refl _ _)
 have hn:=hm.count
 have hv:RR (eC c head) x=((x.name.isEmpty&&(RR 9 y&&l.all (RR 19))) && !head):=by
  obtain⟨k,f,e,a,n,l'⟩:=x
  change k=28 at hkd
  change l'=y::l at hkids
  subst hkd
  subst hkids
  show isR qc qw _ (eC c head)=((n.isEmpty&&(RR 9 y&&l.all (RR 19))) && !head)
  exact qum
 have HT:=zxi (qla x y l hkids r W0 head hk hkd b1 HE0.out.2.1 hG0 hm0 hc)
 rw[← hv] at HT
 generalize RR (eC c head) x=B at *
 have n1:(0:Int)<(r.n:Int):=by rw[hn,hkids];simp
 have n2:decide ((0:Int)<(r.n:Int))=true:=decide_eq_true n1
 obtain⟨u0,_,v0⟩:=jf g0
 obtain⟨u1,_,v1⟩:=jf g1
 obtain⟨u2,_,v2⟩:=jf g2
 obtain⟨u3,_,v3⟩:=jf g3
 have q31:(r.kind == 31)=false:=by simp[hrk]
 have q30:(r.kind == 30)=false:=by simp[hrk]
 have q21:(r.kind == 21)=false:=by simp[hrk]
 have q22:(r.kind == 22)=false:=by simp[hrk]
 have q23:(r.kind == 23)=false:=by simp[hrk]
 have q24:(r.kind == 24)=false:=by simp[hrk]
 have q25:(r.kind == 25)=false:=by simp[hrk]
 have q33:(r.kind == 33)=false:=by simp[hrk]
 have q26:(r.kind == 26)=false:=by simp[hrk]
 have q32:(r.kind == 32)=false:=by simp[hrk]
 have q27:(r.kind == 27)=false:=by simp[hrk]
 have q28:(r.kind == 28)=true:=by simp[hrk]
 exact qtP
theorem quY (x:Tree) (hk:∀ y∈x.kids,EOk y) (hkd:x.kind=27):EOk x:=by
 cases h:x.kids with
 | nil=>exact qt5 x h hkd
 | cons y l=>exact qr2 x y l h hk hkd
theorem quM (x:Tree) (hk:∀ y∈x.kids,qdr y) (hkd:x.kind=28):EOk x:=by
 cases h:x.kids with
 | nil=>exact qsP x h hkd
 | cons y l=>exact qqX x y l h hk hkd
theorem okE (x:Tree) (hk:∀ y∈x.kids,EOk y) (hkk:∀ y∈x.kids,qdr y):EOk x:=by
 by_cases h31:x.kind=31
 · exact qvM x hk h31
 by_cases h30:x.kind=30
 · exact qvw x hk h30
 by_cases h21:x.kind=21
 · exact qwc x  h21
 by_cases h22:x.kind=22
 · exact qvr x  h22
 by_cases h23:x.kind=23
 · exact qv4 x  h23
 by_cases h24:x.kind=24
 · exact qvL x  h24
 by_cases h25:x.kind=25
 · exact qu6 x  h25
 by_cases h33:x.kind=33
 · exact qvT x hk h33
 by_cases h26:x.kind=26
 · exact qvd x hk h26
 by_cases h32:x.kind=32
 · exact qwd x hk h32
 by_cases h27:x.kind=27
 · exact quY x hk h27
 by_cases h28:x.kind=28
 · exact quM x hkk h28
 exact quT x h31 h30 h21 h22 h23 h24 h25 h33 h26 h32 h27 h28
end Go.Proofs.YtacdfjlncfidgaaGreatDoor
