/- A part of what the claim leans on. -/
import Derived.Test.YtacdfjlncfidgaaGreatDoorQS
import Derived.Test.YtacdfjlncfidgaaGreatDoorTL
namespace Go.Proofs.YtacdfjlncfidgaaGreatDoor
open Go.RowKit
set_option linter.unusedVariables false
set_option linter.unusedSimpArgs false
set_option maxRecDepth 100000
set_option maxHeartbeats 6400000
def C6 (w:World) (b off:Nat) (r:RN):Prop:=w.cell? ⟨b,off,none⟩=some (.int .i64 r.kind)∧w.cell? ⟨b,off+1,none⟩=some (.int .i64 r.fr)∧w.cell? ⟨b,off+2,none⟩=some (.int .i64 r.en)∧w.cell? ⟨b,off+3,none⟩=some (.int .i64 r.at_)∧w.cell? ⟨b,off+4,none⟩=some (.string r.name)∧w.cell? ⟨b,off+5,none⟩=some (.slice r.A r.n r.cap)
theorem C6.keep {w w':World} {b off:Nat} {r:RN} (h:C6 w b off r) (hb:b<w.heap.size) (hw:Below w.heap.size w w'):C6 w' b off r:=by
 obtain⟨h0,h1,h2,h3,h4,h5⟩:=h
 exact⟨(hw.cell (by exact hb)).trans h0,(hw.cell (by exact hb)).trans h1,(hw.cell (by exact hb)).trans h2,(hw.cell (by exact hb)).trans h3,(hw.cell (by exact hb)).trans h4,(hw.cell (by exact hb)).trans h5⟩
theorem qd0 {w0 W':World} {b bb off:Nat} {r ra rb:RN} (hx:w0.heap[b]?=some (qd r)) (hbb:bb<w0.heap.size) (ha:C6 w0 bb off ra) (hb:C6 w0 bb (off+6) rb) (h:Below w0.heap.size w0 W':=by repeat (first | exact zR _ | assumption | apply zA | apply zD | refine zT ?_ zxa)) :
  Below w0.heap.size w0 W'∧W'.cell? ⟨b,0,none⟩=some (.int .i64 r.kind)∧W'.cell? ⟨b,1,none⟩=some (.int .i64 r.fr)∧W'.cell? ⟨b,2,none⟩=some (.int .i64 r.en)∧W'.cell? ⟨b,3,none⟩=some (.int .i64 r.at_)∧W'.cell? ⟨b,4,none⟩=some (.string r.name)∧W'.cell? ⟨b,5,none⟩=some (.slice r.A r.n r.cap)∧W'.cell? ⟨bb,off,none⟩=some (.int .i64 ra.kind)∧W'.cell? ⟨bb,off+1,none⟩=some (.int .i64 ra.fr)∧W'.cell? ⟨bb,off+2,none⟩=some (.int .i64 ra.en)∧W'.cell? ⟨bb,off+3,none⟩=some (.int .i64 ra.at_)∧W'.cell? ⟨bb,off+4,none⟩=some (.string ra.name)∧W'.cell? ⟨bb,off+5,none⟩=some (.slice ra.A ra.n ra.cap)∧W'.cell? ⟨bb,off+6,none⟩=some (.int .i64 rb.kind)∧W'.cell? ⟨bb,off+6+1,none⟩=some (.int .i64 rb.fr)∧W'.cell? ⟨bb,off+6+2,none⟩=some (.int .i64 rb.en)∧W'.cell? ⟨bb,off+6+3,none⟩=some (.int .i64 rb.at_)∧W'.cell? ⟨bb,off+6+4,none⟩=some (.string rb.name)∧W'.cell? ⟨bb,off+6+5,none⟩=some (.slice rb.A rb.n rb.cap):=by
 obtain⟨-,e0,e1,e2,e3,e4,e5⟩:=qh hx h
 obtain⟨a0,a1,a2,a3,a4,a5⟩:=ha.keep hbb h
 obtain⟨b0,b1,b2,b3,b4,b5⟩:=hb.keep hbb h
 exact⟨h,e0,e1,e2,e3,e4,e5,a0,a1,a2,a3,a4,a5,b0,b1,b2,b3,b4,b5⟩
theorem qka {P Q:Tree→Bool} {l:List Tree} (h:qx [P,Q] l=true):∃ a b,l=[a,b]∧P a=true∧Q b=true:=by
 have hl:=qcP h
 match l,hl,h with
 | [a,b],_,h =>
  rw[qx,qx,qN] at h
  simp at h
  exact⟨a,b,rfl,h.1,h.2⟩
theorem ql7 (a:Tree) (h:RR 0 a=true):a.kind=0:=by
 obtain⟨k,f,e,t,n,l⟩:=a
 change isR qc qw _ 0=true at h
 rw[qtQ] at h
 simp at h
 exact h.1.1
theorem qkn (a b:Tree) (hp:(Qh [RR 8,RR 0] a&&(Qh [RR (eC 1 false),RR 0] b&&([]:List Tree).isEmpty))=true):qmo [a,b] = !(RR 0 a&&RR 0 b):=by
 have none_of:∀ (t:Tree) (d:Nat),Qh [RR d,RR 0] t=true→(t.kind=0→RR d t=false)→(decide (t.kind≠0) = !RR 0 t):=by
  intro t d h hd
  cases hz:RR 0 t with
  | true=>simp[ql7 t hz]
  | false =>
   have:RR d t=true:=by simpa[Qh,hz] using h
   have hk:t.kind≠0:=fun h0=>by rw[hd h0] at this;cases this
   simp[hk]
 simp only[Bool.and_eq_true] at hp
 have h1:=none_of a 8 hp.1 (fun h0=>by
  obtain⟨k,f,e,t,n,l⟩:=a
  change k=0 at h0
  subst h0
  show isR qc qw _ 8=false
  rw[qT]
  simp[QP,qJ,qL,Tree.kind])
 have h2:=none_of b (eC 1 false) hp.2.1 (fun h0=>by
  obtain⟨k,f,e,t,n,l⟩:=b
  change k=0 at h0
  subst h0
  show isR qc qw _ (eC 1 false)=false
  rw[isE qc qw _ _ _ _ _ _ 1 false zxo zxo]
  simp[QX])
 show(decide (a.kind≠0)||decide (b.kind≠0))=_
 rw[h1,h2]
 cases RR 0 a<;>cases RR 0 b<;>rfl
theorem qvv {w:World} {x a b:Tree} {r:RN} (hm:NodeM w w.heap.size x r) (hk:x.kids=[a,b]):∃ bb off ra rb,bb<w.heap.size∧r.A=some ⟨bb,off,none⟩∧r.n=2∧C6 w bb off ra∧C6 w bb (off+6) rb∧NodeM w w.heap.size a ra∧NodeM w w.heap.size b rb:=by
 obtain⟨k,f,e,t,n,l⟩:=x
 change l=[a,b] at hk
 subst hk
 obtain⟨A,cap,rfl,h⟩:=hm.open2
 obtain⟨bb,off,ra,hA,hbb,hma,c0,c1,c2,c3,c4,c5⟩:=h.at (i:=0) (x:=a) rfl
 obtain⟨bb',off',rb,hA',hbb',hmb,d0,d1,d2,d3,d4,d5⟩:=h.at (i:=1) (x:=b) rfl
 rw[hA] at hA'
 cases hA'
 simp only[Nat.zero_mul,Nat.add_zero,Nat.one_mul] at c0 c1 c2 c3 c4 c5 d0 d1 d2 d3 d4 d5
 exact⟨bb,off,ra,rb,hbb,hA,rfl,⟨c0,c1,c2,c3,c4,c5⟩,⟨d0,d1,d2,d3,d4,d5⟩,hma,hmb⟩
theorem qpf (x:Tree) (hkd:x.kind=11) (hn:(qc x.name&&decide (x.kind=11)&&qx [Qh [RR 8,RR 0],Qh [RR (eC 1 false),RR 0]] x.kids)=false):FnP 87 (RR 11) x:=by
 intro r w hG hm hc
 have hG0:=hG.alloc (qd r)
 have hm0:=hm.boxed zxn (qd r)
 have HX:=zxi (heap_alloc_new w (qd r))
 have HB:=zxi ((Below.refl w.heap.size w).alloc zxn (qd r))
 obtain⟨W0,hW0⟩:∃ W0,w.alloc (qd r)=W0:=⟨_,rfl⟩
 rw[hW0] at hG0 hm0 HX HB
 have hrk:r.kind=11:=by rw[hm.kind];exact hkd
 have HP:=zxi (fun W (hb:Below W0.heap.size W0 W) k A n c Ps (hS:SortsAt W A n Ps x.kids)=>Qj x r W (hm0.after zxn hb) k A n c Ps hS hc)
 have HQ:=zxi (fun W (hb:Below W0.heap.size W0 W) k A n c Ps (hS:SortsAt W A n Ps x.kids)=>jy x r W (hm0.after zxn hb) k A n c Ps hS hc)
 have HEv:=zxi (fun(w W:World) (lb:Array Value) (cc:Nat) (head:Bool) (hE:EV w lb (cc:Int) head) (h1:1≤cc) (h7:cc≤7) (hb:Below w.heap.size w W) (hb0:Below W0.heap.size W0 W) y (hy:y∈x.kids)=>hE.sort hb cc rfl h1 h7 (hG0.below hb0) (qma y) (qk hc hy))
 have HO:=zxi (fun(w1 W:World) (lb:Array Value) (g:Nat) (vs:List Value) (Ps:List (Tree→Bool)) (c:Nat) (hone:OneV w1 (.func (.func 79) #[] lb) (some ⟨g,0,none⟩) vs.length c) (hb:Below w1.heap.size w1 W) (hn:vs.length≤1000) (hrow:W.heap[g]?=some (.cells vs.toArray 64 (0,0))) (hp:PairOk W x.kids vs Ps)=>qbp hone hb hn hrow hp)
 have H0:=zxi (fun W (hb:Below W0.heap.size W0 W) y (hy:y∈x.kids)=>FnP.sort (f:=69) (P:=RR 0) (w:=W) (QF y) (fun args w=>by rfl) (hG0.below hb) (qk hc hy))
 have H71:=zxi (fun W (hb:Below W0.heap.size W0 W) y (hy:y∈x.kids)=>FnP.sort (f:=71) (P:=RR 8) (w:=W) (qiC y) (fun args w=>by rfl) (hG0.below hb) (qk hc hy))
 have hv:RR 11 x=((qc x.name&&decide (x.kind=11)&&qx [Qh [RR 8,RR 0],Qh [RR (eC 1 false),RR 0]] x.kids)&&qmo x.kids):=by
  exact qp0
 rw[hn,Bool.false_and] at hv
 rw[hv]
 have q11:(r.kind == 11)=true:=by simp[hrk]
 have q10:(r.kind == 10)=false:=by simp[hrk]
 have q14:(r.kind == 14)=false:=by simp[hrk]
 have q15:(r.kind == 15)=false:=by simp[hrk]
 have q16:(r.kind == 16)=false:=by simp[hrk]
 have q17:(r.kind == 17)=false:=by simp[hrk]
 have q18:(r.kind == 18)=false:=by simp[hrk]
 have q19:(r.kind == 19)=false:=by simp[hrk]
 clear hv hkd hrk hG hm hc hG0 hm0
 unfold RN.val at HQ ⊢
 go_enter Tryz.func87,Tryz.ntmps87
 go_wp2_with fail
 rw[show w.alloc (.cells #[.int .i64 r.kind,.int .i64 r.fr,.int .i64 r.en,.int .i64 r.at_,.string r.name,.slice r.A r.n r.cap] 24)=W0 from hW0]
 have HKP:=zxi (fun W' (hBW:Below W0.heap.size W0 W')=>(show zS W0 w.heap.size r W' from by exact qh HX.out hBW))
 refine zHD HKP fun hHeld=>?_
 refine zTk 0 (h:=?_)
 refine zRd 1 (h:=fun KK hKK=>?_)
 go_simp
 refine zKK hKK HKP fun hHeld2=>?_;clear hKK KK hHeld;rename _=>hHeld
 refine zRd 2 (h:=fun KK hKK=>?_)
 go_simp
 (refine(qfu _ _ _ _).mono ?_;rintro e wA ⟨⟨lbA,rfl,hA⟩,hbA⟩)
 (try go_wp2_with fail)
 refine zKK hKK HKP fun hHeld2=>?_;clear hKK KK hHeld;rename _=>hHeld
 refine zRd 3 (h:=fun KK hKK=>?_)
 go_simp
 (refine(aE _ _ _).mono ?_;rintro e wB ⟨⟨lbB,rfl,hB1⟩,hbB⟩)
 (try go_wp2_with fail)
 refine zKK hKK HKP fun hHeld2=>?_;clear hKK KK hHeld;rename _=>hHeld
 refine zRd 4 (h:=fun KK hKK=>?_)
 go_simp
 refine zKK hKK HKP fun hHeld2=>?_;clear hKK KK hHeld;rename _=>hHeld
 refine zRd 5 (h:=fun KK hKK=>?_)
 go_simp
 (refine(qfu _ _ _ _).mono ?_;rintro e wC ⟨⟨lbC,rfl,hC⟩,hbC⟩)
 (try go_wp2_with fail)
 refine zKK hKK HKP fun hHeld2=>?_;clear hKK KK hHeld;rename _=>hHeld
 refine zRd 6 (h:=fun KK hKK=>?_)
 go_simp
 refine zKK hKK HKP fun hHeld2=>?_;clear hKK KK hHeld;rename _=>hHeld
 refine zRd 7 (h:=fun KK hKK=>?_)
 go_simp
 (refine((zb HQ) _ _ _ _ [Qh [RR 8,RR 0],Qh [RR (eC 1 false),RR 0]] (SortsAt.lit (vs:=[_,_]) (qG zxs) ⟨HO.out _ _ _ _ [_,_] [RR 8,RR 0] _ hA zxq zxs zxh ⟨(zb H71),(zb H0),trivial⟩,HO.out _ _ _ _ [_,_] [RR (eC 1 false),RR 0] _ hC zxq zxs zxh ⟨HEv.out _ _ _ 1 false hB1 zxo zxo zxq zxq,(zb H0),trivial⟩,trivial⟩)).mono ?_;rintro e wD ⟨he,hbD⟩;rw[hn] at he;subst he)
 (try go_wp2_with fail)
 refine zKK hKK HKP fun hHeld2=>?_;clear hKK KK hHeld;rename _=>hHeld
 refine zTk 8 (h:=?_)
 refine zTn 9 (h:=?_)
 refine zTn 10 (h:=?_)
 refine zTn 11 (h:=?_)
 refine zTn 12 (h:=?_)
 refine zTn 13 (h:=?_)
 refine zTn 14 (h:=?_)
 refine zTn 15 (h:=?_)
 refine zTn 16 (h:=?_)
 refine zTn 17 (h:=?_)
 refine zTn 18 (h:=?_)
 refine zTn 19 (h:=?_)
 refine zTn 20 (h:=?_)
 refine zTn 21 (h:=?_)
 refine zTk 22 (h:=?_)
 refine zTk 23 (h:=?_)
 exact qe1
theorem qoX (x:Tree) (a b:Tree) (hkids:x.kids=[a,b]) (hkd:x.kind=11) (hn:(qc x.name&&decide (x.kind=11)&&qx [Qh [RR 8,RR 0],Qh [RR (eC 1 false),RR 0]] x.kids)=true):FnP 87 (RR 11) x:=by
 intro r w hG hm hc
 have hG0:=hG.alloc (qd r)
 have hm0:=hm.boxed zxn (qd r)
 have HX:=zxi (heap_alloc_new w (qd r))
 have HB:=zxi ((Below.refl w.heap.size w).alloc zxn (qd r))
 obtain⟨W0,hW0⟩:∃ W0,w.alloc (qd r)=W0:=⟨_,rfl⟩
 rw[hW0] at hG0 hm0 HX HB
 have hrk:r.kind=11:=by rw[hm.kind];exact hkd
 have HP:=zxi (fun W (hb:Below W0.heap.size W0 W) k A n c Ps (hS:SortsAt W A n Ps x.kids)=>Qj x r W (hm0.after zxn hb) k A n c Ps hS hc)
 have HQ:=zxi (fun W (hb:Below W0.heap.size W0 W) k A n c Ps (hS:SortsAt W A n Ps x.kids)=>jy x r W (hm0.after zxn hb) k A n c Ps hS hc)
 have HEv:=zxi (fun(w W:World) (lb:Array Value) (cc:Nat) (head:Bool) (hE:EV w lb (cc:Int) head) (h1:1≤cc) (h7:cc≤7) (hb:Below w.heap.size w W) (hb0:Below W0.heap.size W0 W) y (hy:y∈x.kids)=>hE.sort hb cc rfl h1 h7 (hG0.below hb0) (qma y) (qk hc hy))
 have HO:=zxi (fun(w1 W:World) (lb:Array Value) (g:Nat) (vs:List Value) (Ps:List (Tree→Bool)) (c:Nat) (hone:OneV w1 (.func (.func 79) #[] lb) (some ⟨g,0,none⟩) vs.length c) (hb:Below w1.heap.size w1 W) (hn:vs.length≤1000) (hrow:W.heap[g]?=some (.cells vs.toArray 64 (0,0))) (hp:PairOk W x.kids vs Ps)=>qbp hone hb hn hrow hp)
 have H0:=zxi (fun W (hb:Below W0.heap.size W0 W) y (hy:y∈x.kids)=>FnP.sort (f:=69) (P:=RR 0) (w:=W) (QF y) (fun args w=>by rfl) (hG0.below hb) (qk hc hy))
 have H71:=zxi (fun W (hb:Below W0.heap.size W0 W) y (hy:y∈x.kids)=>FnP.sort (f:=71) (P:=RR 8) (w:=W) (qiC y) (fun args w=>by rfl) (hG0.below hb) (qk hc hy))
 have hv:RR 11 x = !(RR 0 a&&RR 0 b):=by
  have h2:RR 11 x=((qc x.name&&decide (x.kind=11)&&qx [Qh [RR 8,RR 0],Qh [RR (eC 1 false),RR 0]] x.kids)&&qmo x.kids):=by
   clear hn
   exact qp0
  have hp:qx [Qh [RR 8,RR 0],Qh [RR (eC 1 false),RR 0]] x.kids=true:=(Bool.and_eq_true_iff.1 hn).2
  rw[h2,hn,Bool.true_and,hkids]
  rw[hkids,qx,qx,qN] at hp
  exact qkn a b hp
 obtain⟨bb,off,ra,rb,hbb,hA2,hn2,hca,hcb,hna,hnb⟩:=qvv hm0 hkids
 have ha:=qk hc (show a∈x.kids by rw[hkids];simp)
 have hb:=qk hc (show b∈x.kids by rw[hkids];simp)
 have HN0:=zxi (fun W (hb:Below W0.heap.size W0 W)=>QF a ra W (hG0.below hb) (hna.after zxn hb) ha)
 have HN1:=zxi (fun W (hb0:Below W0.heap.size W0 W)=>QF b rb W (hG0.below hb0) (hnb.after zxn hb0) hb)
 have HK:=zxi (And.intro hbb (And.intro hca hcb))
 rw[hv]
 have q11:(r.kind == 11)=true:=by simp[hrk]
 have q10:(r.kind == 10)=false:=by simp[hrk]
 have q14:(r.kind == 14)=false:=by simp[hrk]
 have q15:(r.kind == 15)=false:=by simp[hrk]
 have q16:(r.kind == 16)=false:=by simp[hrk]
 have q17:(r.kind == 17)=false:=by simp[hrk]
 have q18:(r.kind == 18)=false:=by simp[hrk]
 have q19:(r.kind == 19)=false:=by simp[hrk]
 clear hv hkd hrk hG hm hc hG0 hm0 hbb hca hcb hna hnb ha hb hkids
 generalize RR 0 a=Za at *
 generalize RR 0 b=Zb at *
 obtain⟨K,F,E,AT,NM,RA,CNT,CAP⟩:=r
 dsimp only at hA2 hn2
 subst hA2
 subst hn2
 dsimp only at q11 q10 q14 q15 q16 q17 q18 q19
 unfold RN.val at HQ HN0 HN1 ⊢
 cases Za with
 | true =>
  go_enter Tryz.func87,Tryz.ntmps87
  go_wp2_with fail
  rw[show w.alloc (.cells #[.int .i64 K,.int .i64 F,.int .i64 E,.int .i64 AT,.string NM,.slice (some ⟨bb,off,none⟩) 2 CAP] 24)=W0 from hW0]
  have HKP:=zxi (fun W' (hBW:Below W0.heap.size W0 W')=>(show((fun w'=>Below W0.heap.size W0 w'∧w'.cell? ⟨w.heap.size,0,none⟩=some (.int .i64 K)∧w'.cell? ⟨w.heap.size,1,none⟩=some (.int .i64 F)∧w'.cell? ⟨w.heap.size,2,none⟩=some (.int .i64 E)∧w'.cell? ⟨w.heap.size,3,none⟩=some (.int .i64 AT)∧w'.cell? ⟨w.heap.size,4,none⟩=some (.string NM)∧w'.cell? ⟨w.heap.size,5,none⟩=some (.slice (some ⟨bb,off,none⟩) 2 CAP)∧w'.cell? ⟨bb,off,none⟩=some (.int .i64 ra.kind)∧w'.cell? ⟨bb,off+1,none⟩=some (.int .i64 ra.fr)∧w'.cell? ⟨bb,off+2,none⟩=some (.int .i64 ra.en)∧w'.cell? ⟨bb,off+3,none⟩=some (.int .i64 ra.at_)∧w'.cell? ⟨bb,off+4,none⟩=some (.string ra.name)∧w'.cell? ⟨bb,off+5,none⟩=some (.slice ra.A ra.n ra.cap)∧w'.cell? ⟨bb,off+6,none⟩=some (.int .i64 rb.kind)∧w'.cell? ⟨bb,off+6+1,none⟩=some (.int .i64 rb.fr)∧w'.cell? ⟨bb,off+6+2,none⟩=some (.int .i64 rb.en)∧w'.cell? ⟨bb,off+6+3,none⟩=some (.int .i64 rb.at_)∧w'.cell? ⟨bb,off+6+4,none⟩=some (.string rb.name)∧w'.cell? ⟨bb,off+6+5,none⟩=some (.slice rb.A rb.n rb.cap))) W' from by exact qd0 HX.out HK.out.1 HK.out.2.1 HK.out.2.2 hBW))
  refine zHD HKP fun hHeld=>?_
  refine zTk 0 (h:=?_)
  refine zRd 1 (h:=fun KK hKK=>?_)
  go_simp
  refine zKK hKK HKP fun hHeld2=>?_;clear hKK KK hHeld;rename _=>hHeld
  refine zRd 2 (h:=fun KK hKK=>?_)
  go_simp
  (refine(qfu _ _ _ _).mono ?_;rintro e wA ⟨⟨lbA,rfl,hA⟩,hbA⟩)
  (try go_wp2_with fail)
  refine zKK hKK HKP fun hHeld2=>?_;clear hKK KK hHeld;rename _=>hHeld
  refine zRd 3 (h:=fun KK hKK=>?_)
  go_simp
  (refine(aE _ _ _).mono ?_;rintro e wB ⟨⟨lbB,rfl,hB1⟩,hbB⟩)
  (try go_wp2_with fail)
  refine zKK hKK HKP fun hHeld2=>?_;clear hKK KK hHeld;rename _=>hHeld
  refine zRd 4 (h:=fun KK hKK=>?_)
  go_simp
  refine zKK hKK HKP fun hHeld2=>?_;clear hKK KK hHeld;rename _=>hHeld
  refine zRd 5 (h:=fun KK hKK=>?_)
  go_simp
  (refine(qfu _ _ _ _).mono ?_;rintro e wC ⟨⟨lbC,rfl,hC⟩,hbC⟩)
  (try go_wp2_with fail)
  refine zKK hKK HKP fun hHeld2=>?_;clear hKK KK hHeld;rename _=>hHeld
  refine zRd 6 (h:=fun KK hKK=>?_)
  go_simp
  refine zKK hKK HKP fun hHeld2=>?_;clear hKK KK hHeld;rename _=>hHeld
  refine zRd 7 (h:=fun KK hKK=>?_)
  go_simp
  (refine((zb HQ) _ _ _ _ [Qh [RR 8,RR 0],Qh [RR (eC 1 false),RR 0]] (SortsAt.lit (vs:=[_,_]) (qG zxs) ⟨HO.out _ _ _ _ [_,_] [RR 8,RR 0] _ hA zxq zxs zxh ⟨(zb H71),(zb H0),trivial⟩,HO.out _ _ _ _ [_,_] [RR (eC 1 false),RR 0] _ hC zxq zxs zxh ⟨HEv.out _ _ _ 1 false hB1 zxo zxo zxq zxq,(zb H0),trivial⟩,trivial⟩)).mono ?_;rintro e wD ⟨he,hbD⟩;rw[hn] at he;subst he)
  (try go_wp2_with fail)
  refine zKK hKK HKP fun hHeld2=>?_;clear hKK KK hHeld;rename _=>hHeld
  refine zTk 8 (h:=?_)
  refine zTk 9 (h:=?_)
  refine zTk 10 (h:=?_)
  refine zTk 11 (h:=?_)
  refine zTk 12 (h:=?_)
  refine zRd 13 (h:=fun KK hKK=>?_)
  go_simp
  (refine(zb HN0).mono ?_;rintro e wE ⟨rfl,hbE⟩)
  (try go_wp2_with fail)
  refine zKK hKK HKP fun hHeld2=>?_;clear hKK KK hHeld;rename _=>hHeld
  refine zTk 14 (h:=?_)
  refine zTk 15 (h:=?_)
  refine zTk 16 (h:=?_)
  refine zTk 17 (h:=?_)
  refine zTk 18 (h:=?_)
  refine zRd 19 (h:=fun KK hKK=>?_)
  go_simp
  (refine(zb HN1).mono ?_;rintro e wF ⟨rfl,hbF⟩)
  (try go_wp2_with fail)
  refine zKK hKK HKP fun hHeld2=>?_;clear hKK KK hHeld;rename _=>hHeld
  exact qt3
 | false =>
  go_enter Tryz.func87,Tryz.ntmps87
  go_wp2_with fail
  rw[show w.alloc (.cells #[.int .i64 K,.int .i64 F,.int .i64 E,.int .i64 AT,.string NM,.slice (some ⟨bb,off,none⟩) 2 CAP] 24)=W0 from hW0]
  have HKP:=zxi (fun W' (hBW:Below W0.heap.size W0 W')=>(show((fun w'=>Below W0.heap.size W0 w'∧w'.cell? ⟨w.heap.size,0,none⟩=some (.int .i64 K)∧w'.cell? ⟨w.heap.size,1,none⟩=some (.int .i64 F)∧w'.cell? ⟨w.heap.size,2,none⟩=some (.int .i64 E)∧w'.cell? ⟨w.heap.size,3,none⟩=some (.int .i64 AT)∧w'.cell? ⟨w.heap.size,4,none⟩=some (.string NM)∧w'.cell? ⟨w.heap.size,5,none⟩=some (.slice (some ⟨bb,off,none⟩) 2 CAP)∧w'.cell? ⟨bb,off,none⟩=some (.int .i64 ra.kind)∧w'.cell? ⟨bb,off+1,none⟩=some (.int .i64 ra.fr)∧w'.cell? ⟨bb,off+2,none⟩=some (.int .i64 ra.en)∧w'.cell? ⟨bb,off+3,none⟩=some (.int .i64 ra.at_)∧w'.cell? ⟨bb,off+4,none⟩=some (.string ra.name)∧w'.cell? ⟨bb,off+5,none⟩=some (.slice ra.A ra.n ra.cap)∧w'.cell? ⟨bb,off+6,none⟩=some (.int .i64 rb.kind)∧w'.cell? ⟨bb,off+6+1,none⟩=some (.int .i64 rb.fr)∧w'.cell? ⟨bb,off+6+2,none⟩=some (.int .i64 rb.en)∧w'.cell? ⟨bb,off+6+3,none⟩=some (.int .i64 rb.at_)∧w'.cell? ⟨bb,off+6+4,none⟩=some (.string rb.name)∧w'.cell? ⟨bb,off+6+5,none⟩=some (.slice rb.A rb.n rb.cap))) W' from by exact qd0 HX.out HK.out.1 HK.out.2.1 HK.out.2.2 hBW))
  refine zHD HKP fun hHeld=>?_
  refine zTk 0 (h:=?_)
  refine zRd 1 (h:=fun KK hKK=>?_)
  go_simp
  refine zKK hKK HKP fun hHeld2=>?_;clear hKK KK hHeld;rename _=>hHeld
  refine zRd 2 (h:=fun KK hKK=>?_)
  go_simp
  (refine(qfu _ _ _ _).mono ?_;rintro e wA ⟨⟨lbA,rfl,hA⟩,hbA⟩)
  (try go_wp2_with fail)
  refine zKK hKK HKP fun hHeld2=>?_;clear hKK KK hHeld;rename _=>hHeld
  refine zRd 3 (h:=fun KK hKK=>?_)
  go_simp
  (refine(aE _ _ _).mono ?_;rintro e wB ⟨⟨lbB,rfl,hB1⟩,hbB⟩)
  (try go_wp2_with fail)
  refine zKK hKK HKP fun hHeld2=>?_;clear hKK KK hHeld;rename _=>hHeld
  refine zRd 4 (h:=fun KK hKK=>?_)
  go_simp
  refine zKK hKK HKP fun hHeld2=>?_;clear hKK KK hHeld;rename _=>hHeld
  refine zRd 5 (h:=fun KK hKK=>?_)
  go_simp
  (refine(qfu _ _ _ _).mono ?_;rintro e wC ⟨⟨lbC,rfl,hC⟩,hbC⟩)
  (try go_wp2_with fail)
  refine zKK hKK HKP fun hHeld2=>?_;clear hKK KK hHeld;rename _=>hHeld
  refine zRd 6 (h:=fun KK hKK=>?_)
  go_simp
  refine zKK hKK HKP fun hHeld2=>?_;clear hKK KK hHeld;rename _=>hHeld
  refine zRd 7 (h:=fun KK hKK=>?_)
  go_simp
  (refine((zb HQ) _ _ _ _ [Qh [RR 8,RR 0],Qh [RR (eC 1 false),RR 0]] (SortsAt.lit (vs:=[_,_]) (qG zxs) ⟨HO.out _ _ _ _ [_,_] [RR 8,RR 0] _ hA zxq zxs zxh ⟨(zb H71),(zb H0),trivial⟩,HO.out _ _ _ _ [_,_] [RR (eC 1 false),RR 0] _ hC zxq zxs zxh ⟨HEv.out _ _ _ 1 false hB1 zxo zxo zxq zxq,(zb H0),trivial⟩,trivial⟩)).mono ?_;rintro e wD ⟨he,hbD⟩;rw[hn] at he;subst he)
  (try go_wp2_with fail)
  refine zKK hKK HKP fun hHeld2=>?_;clear hKK KK hHeld;rename _=>hHeld
  refine zTk 8 (h:=?_)
  refine zTk 9 (h:=?_)
  refine zTk 10 (h:=?_)
  refine zTk 11 (h:=?_)
  refine zTk 12 (h:=?_)
  refine zRd 13 (h:=fun KK hKK=>?_)
  go_simp
  (refine(zb HN0).mono ?_;rintro e wE ⟨rfl,hbE⟩)
  (try go_wp2_with fail)
  refine zKK hKK HKP fun hHeld2=>?_;clear hKK KK hHeld;rename _=>hHeld
  refine zTk 14 (h:=?_)
  refine zTn 15 (h:=?_)
  refine zTn 16 (h:=?_)
  refine zTn 17 (h:=?_)
  refine zTn 18 (h:=?_)
  refine zTn 19 (h:=?_)
  exact qt3
theorem que (x:Tree) (hkd:x.kind=11):FnP 87 (RR 11) x:=by
 cases hn:(qc x.name&&decide (x.kind=11)&&qx [Qh [RR 8,RR 0],Qh [RR (eC 1 false),RR 0]] x.kids) with
 | false=>exact qpf x hkd hn
 | true =>
  obtain⟨a,b,hl,-,-⟩:=qka (Bool.and_eq_true_iff.1 hn).2
  exact qoX x a b hl hkd hn
theorem qrJ (x:Tree) (h10:FnP 72 (RR 10) x) (h12:FnP 97 (RR 12) x) (h13:FnP 98 (RR 13) x) (hk:∀ y∈x.kids,FnP 98 (RR 13) y):FnP 87 (RR 11) x:=by
 by_cases k11:x.kind=11
 · exact que x k11
 by_cases k10:x.kind=10
 · exact qsE x h10 k10
 by_cases k14:x.kind=14
 · exact qsr x h12 k14
 by_cases k15:x.kind=15
 · exact qp7 x h13 k15
 by_cases k16:x.kind=16
 · exact qsc x hk k16
 by_cases k17:x.kind=17
 · exact qrQ x k17
 by_cases k18:x.kind=18
 · exact qtz x k18
 by_cases k19:x.kind=19
 · exact qri x k19
 exact qrx x k11 k10 k14 k15 k16 k17 k18 k19
theorem qo3 (x:Tree):FnP 72 (RR 10) x∧FnP 97 (RR 12) x∧FnP 98 (RR 13) x∧FnP 87 (RR 11) x:=by
 refine QI (P:=fun x=>FnP 72 (RR 10) x∧FnP 97 (RR 12) x∧FnP 98 (RR 13) x∧FnP 87 (RR 11) x) (fun k f t a n l h=>?_) x
 have h10:=qmR (.mk k f t a n l) (fun y hy=>(h y hy).2.2.2)
 have h12:=qlm (.mk k f t a n l) (fun y hy=>⟨(h y hy).1,(h y hy).2.1⟩)
 have h13:=qqK (.mk k f t a n l) (fun y hy=>(h y hy).1)
 exact⟨h10,h12,h13,qrJ _ h10 h12 h13 (fun y hy=>(h y hy).2.2.1)⟩
theorem qoH (x:Tree):FnP 56 (RR 2) x:=qsa x (fun y _=>(qo3 y).1)
theorem qm7 (x:Tree) (r:RN) (w:World) (hm:NodeM w w.heap.size x r):Calls Tryz.prog 54 #[r.val] w fun e w'=>e = .returned (.bool (!decide (x.kind=2)))∧Below w.heap.size w w':=by
 have hk:=hm.kind
 have HB:=zxi ((Below.refl w.heap.size w).alloc zxn (qd r))
 by_cases h:x.kind=2
 · have q:(r.kind == 2)=true:=by simp[hk,h]
   have q2:(r.kind != 2)=false:=by simp[hk,h]
   have hd:decide (x.kind=2)=true:=decide_eq_true h
   exact qs1
 · have q:(r.kind == 2)=false:=by simp[hk,h]
   have q2:(r.kind != 2)=true:=by simp[hk,h]
   have hd:decide (x.kind=2)=false:=decide_eq_false h
   exact qs1
theorem qg6 {l:List Tree} {j:Nat} {x:Tree} (h:l[j]?=some x):qO (l.drop j)=if x.kind=2 then qO (l.drop (j+1))+1 else 0:=by
 rw[jk h,qO]
def qbv (l:List Tree):Int:=if qO l<l.length then (qO l:Int) else -1
theorem qvc (l:List Tree) (A:Option Addr) (c:Nat) (w:World) (hn:l.length≤3000) (hK:KidsM w w.heap.size A l) :
  Calls Tryz.prog 53 #[.slice A l.length c,.func (.func 54) #[] #[]] w fun e w'=>e = .returned (.int .i64 (qbv l))∧Below w.heap.size w w':=by
 have HK:=zxi hK
 clear hK
 obtain⟨n,hln⟩:∃ n,n=l.length:=⟨_,rfl⟩
 rw[← hln] at hn ⊢
 have HN:=zxi hln
 clear hln
 go_enter Tryz.func53,Tryz.ntmps53
 go_wp2_with fail
 go_loopw [8] (fun i wr=>∃ j:Nat,j≤n∧i = .int .i64 j∧qO l=j+qO (l.drop j)∧Below w.heap.size w wr) (fun i _=>n-(intOf i).toNat)
 case atStart=>exact⟨0,Nat.zero_le _,rfl,by simp,Below.refl _ _⟩
 case round =>
  obtain⟨j,hj,rfl,hv,hb⟩:=hrel
  have HB1:=zxi hb
  have HV1:=zxi hv
  clear hb hv
  by_cases hlt:j<n
  · obtain⟨x,hx⟩:∃ x,l[j]?=some x:=⟨_,List.getElem?_eq_getElem (by rw[← HN.out];exact hlt)⟩
    obtain⟨b,off,rx,rfl,hbb,hmx,c0,c1,c2,c3,c4,c5⟩:=(HK.out.after zxn HB1.out).at hx
    have HC:=zxi (qm7 x rx wr hmx)
    have eg2:∀ args w,(callFunc 54 args).run Tryz.prog w = .ok (.enter 54 args) w:=fun args w=>by rfl
    have HI:=zxi (qg6 hx)
    clear hmx hx
    unfold RN.val at HC
    by_cases hq:x.kind=2
    · rw[decide_eq_true hq] at HC
      have HV2:=zxi (show qO l=j+1+qO (l.drop (j+1)) by rw[HV1.out,HI.out,if_pos hq];omega)
      clear hq
      go_wp2_with (go_at_fn 54;refine HC.out.mono ?_;rintro e w2 ⟨rfl,hb2⟩;have HB2:=zxi (qa HB1.out hb2);clear hb2)
      go_roundw
      case rel=>exact⟨j+1,by omega,by go_num,HV2.out,HB2.out⟩
      case measure=>simp only[intOf];omega
    · rw[decide_eq_false hq] at HC
      have HV2:=zxi (show qO l=j by rw[HV1.out,HI.out,if_neg hq];rfl)
      clear hq
      go_wp2_with (go_at_fn 54;refine HC.out.mono ?_;rintro e w2 ⟨rfl,hb2⟩;have HB2:=zxi (qa HB1.out hb2);clear hb2)
      go_ret
      exact⟨by unfold qbv;rw[HV2.out,← HN.out,if_pos hlt];rfl,HB2.out⟩
  · have HV:=zxi (show qbv l = -1 by
     have:=HV1.out
     rw[List.drop_of_length_le (by rw[← HN.out];omega)] at this
     unfold qbv
     rw[if_neg (by rw[← HN.out];omega)])
    go_wp2_with fail
    go_ret
    exact⟨by rw[HV.out];rfl,HB1.out⟩
def qgA (u v:Value) (j n:Nat):List Value:=List.replicate j u++List.replicate (n-j) v
theorem qcL {W:World} {l:List Tree} {v:Value} {P:Tree→Bool} (h:∀ x∈l,Q5 v P W x):∀ m,PairOk W l (List.replicate m v) (List.replicate m P)
 | 0=>trivial
 | m+1=>⟨h,qcL h m⟩
theorem qfW {W:World} {l:List Tree}:∀ {vs us:List Value} {Ps Qs:List (Tree→Bool)},PairOk W l vs Ps→PairOk W l us Qs→PairOk W l (vs++us) (Ps++Qs)
 | [],_,[],_,_,h=>h
 | _::_,_,_::_,_,h,h'=>⟨h.1,qfW h.2 h'⟩
theorem SortsAt.mix {w:World} {g j n:Nat} {u v:Value} {P Q:Tree→Bool} {l:List Tree} (hj:j≤n) (h:w.heap[g]?=some (.cells (qgA u v j n).toArray 64 (0,0))) (hu:∀ x∈l,Q5 u P w x) (hv:∀ x∈l,Q5 v Q w x) :
  SortsAt w (some ⟨g,0,none⟩) n (List.replicate j P++List.replicate (n-j) Q) l:=by
 have:=SortsAt.lit h (qfW (qcL hu j) (qcL hv (n-j)))
 rw[show(qgA u v j n).length=n by simp[qgA];omega] at this
 exact this
theorem qny (u v:Value) {j n:Nat} (h:j<n):(qgA u v j n).toArray.setIfInBounds j u=(qgA u v (j+1) n).toArray:=by
 have e:n-j=(n-(j+1))+1:=by omega
 unfold qgA
 rw[e,List.replicate_succ,List.replicate_succ']
 simp[List.set_append]
theorem qfa {w:World} {g j n:Nat} {u v:Value} (hj:j<n) (h:w.heap[g]?=some (.cells (qgA u v j n).toArray 64 (0,0))):w.cell? ⟨g,0+j,none⟩=some v∧w.frozen? ⟨g,0+j,none⟩=false∧g<w.heap.size:=by
 refine⟨?_,by simp[World.frozen?,h],(Array.getElem?_eq_some_iff.1 h).1⟩
 rw[cell_of_row _ _ _ _ _ _ h,List.getElem?_toArray]
 unfold qgA
 rw[Nat.zero_add,List.getElem?_append_right zxs,List.length_replicate,Nat.sub_self,List.getElem?_replicate,if_pos zxo]
theorem ql2 (x:Tree):(qc x.name&&decide (x.kind=1)&&qx (List.replicate (qO x.kids) (RR 1)++List.replicate (x.kids.length-qO x.kids) (RR 2)) x.kids)=qbo qc qw x:=by
 unfold qbo
 rw[qF,qcj,List.map_append,List.map_replicate,List.map_replicate,qbJ,qbJ,Bool.and_comm (qc x.name)]
theorem qvY (x:Tree):FnP 43 (qbo qc qw) x:=by
 intro r w hG hm hc
 have hG0:=hG.alloc (qd r)
 have hm0:=hm.boxed zxn (qd r)
 have HX:=zxi (heap_alloc_new w (qd r))
 have HB:=zxi ((Below.refl w.heap.size w).alloc zxn (qd r))
 obtain⟨W0,hW0⟩:∃ W0,w.alloc (qd r)=W0:=⟨_,rfl⟩
 rw[hW0] at hG0 hm0 HX HB
 obtain⟨-,e0,e1,e2,e3,e4,e5⟩:=qh HX.out (Below.refl _ _)
 have hlen:x.kids.length≤3000:=by
  obtain⟨k,f,e,a,n,l⟩:=x
  have:=jP hc
  show l.length≤3000
  omega
 have hle:=qb6 x.kids
 have hn:=hm.count
 have HI:=zxi (fun W (hb:Below W0.heap.size W0 W)=>(show Calls Tryz.prog 53 #[.slice r.A r.n r.cap,.func (.func 54) #[] #[]] W fun e w'=>e = .returned (.int .i64 (qbv x.kids))∧Below W.heap.size W w' by
  rw[hn]
  refine qvc x.kids r.A r.cap W hlen ?_
  have:=hm0.after zxn hb
  obtain⟨k,f,e,a,n,l⟩:=x
  obtain⟨A',cap,rfl,hk⟩:=this.open2
  exact hk))
 have HA:=zxi (fun W (hb:Below W0.heap.size W0 W)=>qmy x r W (hm0.after zxn hb) 56 #[] hc)
 have HF:=zxi (fun W (hb:Below W0.heap.size W0 W) g (hg:W.heap[g]?=some (.cells (qgA (.func (.func 57) #[] #[]) (.func (.func 56) #[] #[]) (qO x.kids) x.kids.length).toArray 64 (0,0)))=>jy x r W (hm0.after zxn hb) 1 (some ⟨g,0,none⟩) x.kids.length x.kids.length _
  (SortsAt.mix hle hg (fun y hy=>(qkj y).sort (fun args w=>by rfl) (hG0.below hb) (qk hc hy)) (fun y hy=>(qoH y).sort (fun args w=>by rfl) (hG0.below hb) (qk hc hy))) hc)
 rw[ql2] at HF
 generalize qbo qc qw x=B at *
 have hfirst:qbv x.kids=if qO x.kids<x.kids.length then (qO x.kids:Int) else -1:=rfl
 have hrn:r.n=x.kids.length:=hn
 clear hm0 hG0 hm hG hn
 generalize qbv x.kids=FI at *
 generalize qO x.kids=m at *
 obtain⟨n,hnn⟩:∃ n,n=x.kids.length:=⟨_,rfl⟩
 rw[← hnn] at HA HF hfirst hrn hle hlen
 clear hnn hc
 unfold RN.val at HA HF ⊢
 unfold qd at hW0
 obtain⟨K,F,E,AT,NM,RA,CNT,CAP⟩:=r
 dsimp only at hrn
 replace hrn:=hrn.symm
 subst hrn
 dsimp only at HI HA HF hW0 e0 e1 e2 e3 e4 e5 ⊢
 have tail:∀ (g:Nat) (wB:World),W0.heap.size≤g→wB.heap[g]?=some (.cells (List.replicate n (.func (.func 56) #[] #[])).toArray 64 (0,0))→wB.heap[g]?=some (.cells (qgA (.func (.func 57) #[] #[]) (.func (.func 56) #[] #[]) 0 n).toArray 64 (0,0)):=fun g wB _ h=>by rw[h];simp[qgA]
 have HTL:=zxi tail
 clear tail
 by_cases hmn:m<n
 · rw[if_pos hmn] at hfirst
   subst hfirst
   have p1:¬ (m:Int)<0:=by omega
   go_enter Tryz.func43,Tryz.ntmps43
   go_wp2_with (first | (go_at_call 53;go_must (refine(HI.out _ (Below.refl _ _)).mono ?_);rintro e wA ⟨rfl,hbA⟩;have HBA:=zxi hbA;clear e0 e1 e2 e3 e4 e5;obtain⟨-,e0,e1,e2,e3,e4,e5⟩:=qh HX.out hbA;clear hbA) | (go_at_call 55;go_must (refine(HA.out _ HBA.out).mono ?_);rintro e wB ⟨⟨g,rfl,hg,hrow⟩,hbB⟩;have HR:=zxi (HTL.out g wB (Nat.le_trans HBA.out.size hg) hrow);have HBB:=zxi (qa HBA.out hbB);have HG:=zxi (Nat.le_trans HBA.out.size hg);clear hg hrow hbB e0 e1 e2 e3 e4 e5))
   go_loopw [17] (fun i wr=>∃ j:Nat,j≤m∧i = .int .i64 j∧wr.heap[g]?=some (.cells (qgA (.func (.func 57) #[] #[]) (.func (.func 56) #[] #[]) j n).toArray 64 (0,0))∧Below W0.heap.size W0 wr) (fun i _=>m-(intOf i).toNat)
   case atStart=>exact⟨0,Nat.zero_le _,rfl,HR.out,HBB.out⟩
   case round =>
    obtain⟨j,hj,rfl,hr,hb⟩:=hrel
    have HR1:=zxi hr
    have HB1:=zxi hb
    clear hr hb
    by_cases hlt:j<m
    · obtain⟨c0,c1,c2⟩:=qfa zxo HR1.out
      have q0:(0:Int)≤(j:Int):=by omega
      have q1:(j:Int)<(n:Int):=by omega
      exact qtD
    · exact quc
 · rw[if_neg hmn] at hfirst
   subst hfirst
   obtain rfl:m=n:=by omega
   have p1:(-1:Int)<0:=by omega
   go_enter Tryz.func43,Tryz.ntmps43
   go_wp2_with (first | (go_at_call 53;go_must (refine(HI.out _ (Below.refl _ _)).mono ?_);rintro e wA ⟨rfl,hbA⟩;have HBA:=zxi hbA;clear e0 e1 e2 e3 e4 e5;obtain⟨-,e0,e1,e2,e3,e4,e5⟩:=qh HX.out hbA;clear hbA) | (go_at_call 55;go_must (refine(HA.out _ HBA.out).mono ?_);rintro e wB ⟨⟨g,rfl,hg,hrow⟩,hbB⟩;have HR:=zxi (HTL.out g wB (Nat.le_trans HBA.out.size hg) hrow);have HBB:=zxi (qa HBA.out hbB);have HG:=zxi (Nat.le_trans HBA.out.size hg);clear hg hrow hbB e0 e1 e2 e3 e4 e5))
   go_loopw [17] (fun i wr=>∃ j:Nat,j≤m∧i = .int .i64 j∧wr.heap[g]?=some (.cells (qgA (.func (.func 57) #[] #[]) (.func (.func 56) #[] #[]) j m).toArray 64 (0,0))∧Below W0.heap.size W0 wr) (fun i _=>m-(intOf i).toNat)
   case atStart=>exact⟨0,Nat.zero_le _,rfl,HR.out,HBB.out⟩
   case round =>
    obtain⟨j,hj,rfl,hr,hb⟩:=hrel
    have HR1:=zxi hr
    have HB1:=zxi hb
    clear hr hb
    by_cases hlt:j<m
    · obtain⟨c0,c1,c2⟩:=qfa zxo HR1.out
      have q0:(0:Int)≤(j:Int):=by omega
      have q1:(j:Int)<(m:Int):=by omega
      exact qtD
    · exact quc
theorem qh8 (x:Tree) (r:RN) (w:World) (hG:LexG w) (hm:NodeM w w.heap.size x r) (hc:qY x≤3000) :
  Calls Tryz.prog 13 #[r.val] w fun e w'=>e = .returned (.int .i64 (jY qc qw x))∧Below w.heap.size w w':=by
 have hG0:=hG.alloc (qd r)
 have hm0:=hm.boxed zxn (qd r)
 have HX:=zxi (heap_alloc_new w (qd r))
 have HB:=zxi ((Below.refl w.heap.size w).alloc zxn (qd r))
 obtain⟨W0,hW0⟩:∃ W0,w.alloc (qd r)=W0:=⟨_,rfl⟩
 rw[hW0] at hG0 hm0 HX HB
 obtain⟨-,e0,e1,e2,e3,e4,e5⟩:=qh HX.out (Below.refl _ _)
 have HD:=zxi (qi2 x r W0 hm0 hc)
 have HF:=zxi (fun W (hb:Below W0.heap.size W0 W)=>qvY x r W (hG0.below hb) (hm0.after zxn hb) hc)
 have hv:jY qc qw x=if 64<jc x then 3 else if qbo qc qw x then 0 else 4:=rfl
 generalize jY qc qw x=C at *
 generalize qbo qc qw x=B at *
 generalize jc x=d at *
 clear hm hc hG hm0 hG0
 unfold RN.val at HD HF ⊢
 unfold qd at hW0
 by_cases hd:64<d
 · have p1:(64:Int)<(d:Int):=by omega
   have p2:decide ((64:Int)<(d:Int))=true:=decide_eq_true p1
   rw[if_pos hd] at hv
   subst hv
   go_enter Tryz.func13,Tryz.ntmps13
   go_wp2_with (first | (go_at_call 14;go_must (refine HD.out.mono ?_);rintro e wA ⟨rfl,hbA⟩) | (go_at_call 43;go_must (refine(HF.out _ hbA).mono ?_);rintro e wB ⟨rfl,hbB⟩))
   exact qf7
 · have p1:¬ (64:Int)<(d:Int):=by omega
   have p2:decide ((64:Int)<(d:Int))=false:=decide_eq_false p1
   rw[if_neg hd] at hv
   subst hv
   cases B with
   | true =>exact qrN
   | false =>exact qrN
end Go.Proofs.YtacdfjlncfidgaaGreatDoor
