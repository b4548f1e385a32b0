/- A part of what the claim leans on. -/
import Derived.Test.YtacdfjlncfidgaaGreatDoorQS
import Derived.Test.YtacdfjlncfidgaaGreatDoorTI
namespace Go.Proofs.YtacdfjlncfidgaaGreatDoor
open Go.RowKit
set_option linter.unusedVariables false
set_option linter.unusedSimpArgs false
set_option maxRecDepth 100000
set_option maxHeartbeats 6400000
theorem qxm (x:Tree):EOk x∧qdr x:=by
 refine QI (P:=fun x=>EOk x∧qdr x) (fun k f t a n l h=>?_) x
 exact⟨okE _ (fun y hy=>(h y hy).1) (fun y hy=>(h y hy).2),qpg _ (fun y hy=>(h y hy).1)⟩
theorem qma (x:Tree):EOk x:=(qxm x).1
theorem qpD (x:Tree):FnP 118 (RR 16) x:=QI (P:=fun x=>FnP 118 (RR 16) x) (fun k f t a n l h=>qqN _ h) x
theorem qiS (x:Tree):HOk 138 QD x:=qlM x (qma x)
theorem qdg (x:Tree):HOk 116 qj2 x:=qkW x (fun y _=>qma y)
theorem qjQ (x:Tree):HOk 117 qas x:=qrZ x (fun y _=>⟨qma y,qpD y,qiS y⟩)
theorem OneV.later {w w':World} {v:Value} {A:Option Addr} {n c:Nat} (h:OneV w v A n c) (hb:Below w.heap.size w w'):OneV w' v A n c:=by
 obtain⟨bx,e,h⟩:=h
 exact⟨bx,e,qg h hb⟩
theorem PairOk.one {W:World} {l:List Tree}:∀ {vs:List Value} {Ps:List (Tree→Bool)},PairOk W l vs Ps→∀ y∈l,PairOk W [y] vs Ps
 | [],[],_,_,_=>trivial
 | _::_,_::_,h,y,hy=>⟨fun z hz=>by rw[List.mem_singleton.1 hz];exact h.1 y hy,PairOk.one h.2 y hy⟩
theorem qbp {w1 W:World} {lb:Array Value} {g c:Nat} {vs:List Value} {Ps:List (Tree→Bool)} {l:List Tree} (hone:OneV w1 (.func (.func 79) #[] lb) (some ⟨g,0,none⟩) vs.length c) (hb:Below w1.heap.size w1 W) (hn:vs.length≤1000) (hrow:W.heap[g]?=some (.cells vs.toArray 64 (0,0))) (hp:PairOk W l vs Ps):∀ y∈l,Q5 (.func (.func 79) #[] lb) (Qh Ps) W y :=
 fun y hy=>qry (hone.later hb) hn (OneAt.lit hrow (hp.one y hy))
theorem Qf (ds:List Nat):qbK qc qw ds=Qh (ds.map fun d=>RR d):=by
 funext t
 unfold qbK Qh RR
 rw[List.any_map]
 rfl
theorem qmR (x:Tree) (hk:∀ y∈x.kids,FnP 87 (RR 11) y):FnP 72 (RR 10) x:=by
 intro r w hG hm hc
 have hG0:=hG.alloc (qd r)
 have hm0:=hm.boxed zxn (qd r)
 have HX:=zxi (heap_alloc_new w (qd r))
 have HB:=zxi ((Below.refl w.heap.size w).alloc zxn (qd r))
 obtain⟨W0,hW0⟩:∃ W0,w.alloc (qd r)=W0:=⟨_,rfl⟩
 rw[hW0] at hG0 hm0 HX HB
 have HA:=zxi (fun W (hb:Below W0.heap.size W0 W)=>qmy x r W (hm0.after zxn hb) 87 #[] hc)
 have HP:=zxi (fun W (hb:Below W0.heap.size W0 W) g (hg:W.heap[g]?=some (.cells (List.replicate x.kids.length (.func (.func 87) #[] #[])).toArray 64 (0,0)))=>Qj x r W (hm0.after zxn hb) 10 (some ⟨g,0,none⟩) x.kids.length x.kids.length (List.replicate x.kids.length (RR 11))
  (SortsAt.rep hg (fun y hy=>(hk y hy).sort (fun args w=>by rfl) (hG0.below hb) (qk hc hy))) hc)
 have e:(x.name.isEmpty&&decide (x.kind=10)&&qx (List.replicate x.kids.length (RR 11)) x.kids)=RR 10 x:=by
  obtain⟨k,f,e,a,n,l⟩:=x
  show(n.isEmpty&&decide (k=10)&&qx (List.replicate l.length (RR 11)) l)=isR qc qw (.mk k f e a n l) 10
  rw[quq,jm]
 rw[e] at HP
 generalize RR 10 x=B at *
 clear hG hm hc e hG0 hm0 hk
 unfold RN.val at HA HP ⊢
 go_enter Tryz.func72,Tryz.ntmps72
 go_wp2_with fail
 rw[show w.alloc (.cells #[.int .i64 r.kind,.int .i64 r.fr,.int .i64 r.en,.int .i64 r.at_,.string r.name,.slice r.A r.n r.cap] 24)=W0 from hW0]
 have HKP:=zxi (fun W' (hBW:Below W0.heap.size W0 W')=>(show zS W0 w.heap.size r W' from by exact qh HX.out hBW))
 refine zHD HKP fun hHeld=>?_
 refine zTk 0 (h:=?_)
 refine zTk 1 (h:=?_)
 refine zRd 2 (h:=fun KK hKK=>?_)
 go_simp
 (refine(zb HA).mono ?_;rintro e wA ⟨⟨g,rfl,hg,hrow⟩,hbA⟩)
 (try go_wp2_with fail)
 refine zKK hKK HKP fun hHeld2=>?_;clear hKK KK hHeld;rename _=>hHeld
 refine zRd 3 (h:=fun KK hKK=>?_)
 go_simp
 (refine((zb HP) _ zxa).mono ?_;rintro e wB ⟨rfl,hbB⟩)
 (try go_wp2_with fail)
 refine zKK hKK HKP fun hHeld2=>?_;clear hKK KK hHeld;rename _=>hHeld
 refine zTk 4 (h:=?_)
 exact qe1
theorem qlm (x:Tree) (hk:∀ y∈x.kids,FnP 72 (RR 10) y∧FnP 97 (RR 12) y):FnP 97 (RR 12) x:=by
 intro r w hG hm hc
 have hG0:=hG.alloc (qd r)
 have hm0:=hm.boxed zxn (qd r)
 have HX:=zxi (heap_alloc_new w (qd r))
 have HB:=zxi ((Below.refl w.heap.size w).alloc zxn (qd r))
 obtain⟨W0,hW0⟩:∃ W0,w.alloc (qd r)=W0:=⟨_,rfl⟩
 rw[hW0] at hG0 hm0 HX HB
 have HP:=zxi (fun W (hb:Below W0.heap.size W0 W) k A n c Ps (hS:SortsAt W A n Ps x.kids)=>Qj x r W (hm0.after zxn hb) k A n c Ps hS hc)
 have HQ:=zxi (fun W (hb:Below W0.heap.size W0 W) k A n c Ps (hS:SortsAt W A n Ps x.kids)=>jy x r W (hm0.after zxn hb) k A n c Ps hS hc)
 have HEv:=zxi (fun(w W:World) (lb:Array Value) (cc:Nat) (head:Bool) (hE:EV w lb (cc:Int) head) (h1:1≤cc) (h7:cc≤7) (hb:Below w.heap.size w W) (hb0:Below W0.heap.size W0 W) y (hy:y∈x.kids)=>hE.sort hb cc rfl h1 h7 (hG0.below hb0) (qma y) (qk hc hy))
 have HO:=zxi (fun(w1 W:World) (lb:Array Value) (g:Nat) (vs:List Value) (Ps:List (Tree→Bool)) (c:Nat) (hone:OneV w1 (.func (.func 79) #[] lb) (some ⟨g,0,none⟩) vs.length c) (hb:Below w1.heap.size w1 W) (hn:vs.length≤1000) (hrow:W.heap[g]?=some (.cells vs.toArray 64 (0,0))) (hp:PairOk W x.kids vs Ps)=>qbp hone hb hn hrow hp)
 have H0:=zxi (fun W (hb:Below W0.heap.size W0 W) y (hy:y∈x.kids)=>FnP.sort (f:=69) (P:=RR 0) (w:=W) (QF y) (fun args w=>by rfl) (hG0.below hb) (qk hc hy))
 have H72:=zxi (fun W (hb:Below W0.heap.size W0 W) y (hy:y∈x.kids)=>FnP.sort (f:=72) (P:=RR 10) (w:=W) ((hk y hy).1) (fun args w=>by rfl) (hG0.below hb) (qk hc hy))
 have H97:=zxi (fun W (hb:Below W0.heap.size W0 W) y (hy:y∈x.kids)=>FnP.sort (f:=97) (P:=RR 12) (w:=W) ((hk y hy).2) (fun args w=>by rfl) (hG0.below hb) (qk hc hy))
 have hv:(x.name.isEmpty&&decide (x.kind=14)&&qx [RR (eC 1 true),RR 10,Qh [RR 0,RR 12,RR 10]] x.kids)=RR 12 x:=by
  obtain⟨k,f,e,a,n,l⟩:=x
  show _=isR qc qw (.mk k f e a n l) 12
  rw[qqA,Qf]
  rfl
 generalize hB:RR 12 x=B at *
 clear hG hm hc hG0 hm0 hk
 unfold RN.val at HP ⊢
 go_enter Tryz.func97,Tryz.ntmps97
 go_wp2_with fail
 rw[show w.alloc (.cells #[.int .i64 r.kind,.int .i64 r.fr,.int .i64 r.en,.int .i64 r.at_,.string r.name,.slice r.A r.n r.cap] 24)=W0 from hW0]
 have HKP:=zxi (fun W' (hBW:Below W0.heap.size W0 W')=>(show zS W0 w.heap.size r W' from by exact qh HX.out hBW))
 refine zHD HKP fun hHeld=>?_
 refine zTk 0 (h:=?_)
 refine wpAnyH_ready (rs:=[1,2]) (by kernel_rfl) zxs ?_
 refine AllReadyH.cons (by rfl) (fun KK hKK=>?_) (AllReadyH.cons (by rfl) (fun KK hKK=>?_) AllReadyH.nil)
 · go_simp
   (refine(aE _ _ _).mono ?_;rintro e wA ⟨⟨lbA,rfl,hA⟩,hbA⟩)
   (try go_wp2_with fail)
   refine zKK hKK HKP fun hHeld2=>?_;clear hKK KK hHeld;rename _=>hHeld
   refine zRd 2 (h:=fun KK hKK=>?_)
   go_simp
   exact qwB
 · go_simp
   refine zKK hKK HKP fun hHeld2=>?_;clear hKK KK hHeld;rename _=>hHeld
   refine zRd 1 (h:=fun KK hKK=>?_)
   go_simp
   (refine(aE _ _ _).mono ?_;rintro e wA ⟨⟨lbA,rfl,hA⟩,hbA⟩)
   (try go_wp2_with fail)
   exact qwB
theorem qqK (x:Tree) (hk:∀ y∈x.kids,FnP 72 (RR 10) y):FnP 98 (RR 13) x:=by
 intro r w hG hm hc
 have hG0:=hG.alloc (qd r)
 have hm0:=hm.boxed zxn (qd r)
 have HX:=zxi (heap_alloc_new w (qd r))
 have HB:=zxi ((Below.refl w.heap.size w).alloc zxn (qd r))
 obtain⟨W0,hW0⟩:∃ W0,w.alloc (qd r)=W0:=⟨_,rfl⟩
 rw[hW0] at hG0 hm0 HX HB
 have HP:=zxi (fun W (hb:Below W0.heap.size W0 W) k A n c Ps (hS:SortsAt W A n Ps x.kids)=>Qj x r W (hm0.after zxn hb) k A n c Ps hS hc)
 have HQ:=zxi (fun W (hb:Below W0.heap.size W0 W) k A n c Ps (hS:SortsAt W A n Ps x.kids)=>jy x r W (hm0.after zxn hb) k A n c Ps hS hc)
 have HEv:=zxi (fun(w W:World) (lb:Array Value) (cc:Nat) (head:Bool) (hE:EV w lb (cc:Int) head) (h1:1≤cc) (h7:cc≤7) (hb:Below w.heap.size w W) (hb0:Below W0.heap.size W0 W) y (hy:y∈x.kids)=>hE.sort hb cc rfl h1 h7 (hG0.below hb0) (qma y) (qk hc hy))
 have HO:=zxi (fun(w1 W:World) (lb:Array Value) (g:Nat) (vs:List Value) (Ps:List (Tree→Bool)) (c:Nat) (hone:OneV w1 (.func (.func 79) #[] lb) (some ⟨g,0,none⟩) vs.length c) (hb:Below w1.heap.size w1 W) (hn:vs.length≤1000) (hrow:W.heap[g]?=some (.cells vs.toArray 64 (0,0))) (hp:PairOk W x.kids vs Ps)=>qbp hone hb hn hrow hp)
 have HD:=zxi (fun(w W:World) (lb:Array Value) (head:Bool) (hE:HV w lb head) (hb:Below w.heap.size w W) (hb0:Below W0.heap.size W0 W) y (hy:y∈x.kids)=>hE.sort (f:=116) (fun args w=>by rfl) hb (hG0.below hb0) (qdg y) (qk hc hy))
 have HT:=zxi (fun(w W:World) (lb:Array Value) (head:Bool) (hE:HV w lb head) (hb:Below w.heap.size w W) (hb0:Below W0.heap.size W0 W) y (hy:y∈x.kids)=>hE.sort (f:=117) (fun args w=>by rfl) hb (hG0.below hb0) (qjQ y) (qk hc hy))
 have H0:=zxi (fun W (hb:Below W0.heap.size W0 W) y (hy:y∈x.kids)=>FnP.sort (f:=69) (P:=RR 0) (w:=W) (QF y) (fun args w=>by rfl) (hG0.below hb) (qk hc hy))
 have H72:=zxi (fun W (hb:Below W0.heap.size W0 W) y (hy:y∈x.kids)=>FnP.sort (f:=72) (P:=RR 10) (w:=W) ((hk y hy)) (fun args w=>by rfl) (hG0.below hb) (qk hc hy))
 have hv:(x.name.isEmpty&&decide (x.kind=15)&&qx [Qh [RR (qj2 true),RR (qas true),RR 0],Qh [RR (eC 1 true),RR 0],Qh [RR (qas true),RR 0],RR 10] x.kids)=RR 13 x:=by
  obtain⟨k,f,e,a,n,l⟩:=x
  show _=isR qc qw (.mk k f e a n l) 13
  rw[qr5,Qf,Qf,Qf]
  rfl
 generalize hB:RR 13 x=B at *
 clear hG hm hc hG0 hm0 hk
 unfold RN.val at HP ⊢
 go_enter Tryz.func98,Tryz.ntmps98
 go_wp2_with fail
 rw[show w.alloc (.cells #[.int .i64 r.kind,.int .i64 r.fr,.int .i64 r.en,.int .i64 r.at_,.string r.name,.slice r.A r.n r.cap] 24)=W0 from hW0]
 have HKP:=zxi (fun W' (hBW:Below W0.heap.size W0 W')=>(show zS W0 w.heap.size r W' from by exact qh HX.out hBW))
 refine zHD HKP fun hHeld=>?_
 refine zTk 0 (h:=?_)
 refine zRd 1 (h:=fun KK hKK=>?_)
 go_simp
 (refine(qet _ _).mono ?_;rintro e wA ⟨⟨lbA,rfl,hA⟩,hbA⟩)
 (try go_wp2_with fail)
 refine zKK hKK HKP fun hHeld2=>?_;clear hKK KK hHeld;rename _=>hHeld
 refine zRd 2 (h:=fun KK hKK=>?_)
 go_simp
 (refine(qns _ _).mono ?_;rintro e wB ⟨⟨lbB,rfl,hB1⟩,hbB⟩)
 (try go_wp2_with fail)
 refine zKK hKK HKP fun hHeld2=>?_;clear hKK KK hHeld;rename _=>hHeld
 refine zRd 3 (h:=fun KK hKK=>?_)
 go_simp
 refine zKK hKK HKP fun hHeld2=>?_;clear hKK KK hHeld;rename _=>hHeld
 refine zRd 4 (h:=fun KK hKK=>?_)
 go_simp
 (refine(qfu _ _ _ _).mono ?_;rintro e wC ⟨⟨lbC,rfl,hC⟩,hbC⟩)
 (try go_wp2_with fail)
 refine zKK hKK HKP fun hHeld2=>?_;clear hKK KK hHeld;rename _=>hHeld
 refine zRd 5 (h:=fun KK hKK=>?_)
 go_simp
 (refine(aE _ _ _).mono ?_;rintro e wD ⟨⟨lbD,rfl,hD⟩,hbD⟩)
 (try go_wp2_with fail)
 refine zKK hKK HKP fun hHeld2=>?_;clear hKK KK hHeld;rename _=>hHeld
 refine zRd 6 (h:=fun KK hKK=>?_)
 go_simp
 refine zKK hKK HKP fun hHeld2=>?_;clear hKK KK hHeld;rename _=>hHeld
 refine zRd 7 (h:=fun KK hKK=>?_)
 go_simp
 (refine(qfu _ _ _ _).mono ?_;rintro e wE ⟨⟨lbE,rfl,hE⟩,hbE⟩)
 (try go_wp2_with fail)
 refine zKK hKK HKP fun hHeld2=>?_;clear hKK KK hHeld;rename _=>hHeld
 refine zRd 8 (h:=fun KK hKK=>?_)
 go_simp
 (refine(qns _ _).mono ?_;rintro e wF ⟨⟨lbF,rfl,hF⟩,hbF⟩)
 (try go_wp2_with fail)
 refine zKK hKK HKP fun hHeld2=>?_;clear hKK KK hHeld;rename _=>hHeld
 refine zRd 9 (h:=fun KK hKK=>?_)
 go_simp
 refine zKK hKK HKP fun hHeld2=>?_;clear hKK KK hHeld;rename _=>hHeld
 refine zRd 10 (h:=fun KK hKK=>?_)
 go_simp
 (refine(qfu _ _ _ _).mono ?_;rintro e wH ⟨⟨lbH,rfl,hH⟩,hbH⟩)
 (try go_wp2_with fail)
 refine zKK hKK HKP fun hHeld2=>?_;clear hKK KK hHeld;rename _=>hHeld
 refine zRd 11 (h:=fun KK hKK=>?_)
 go_simp
 refine zKK hKK HKP fun hHeld2=>?_;clear hKK KK hHeld;rename _=>hHeld
 refine zRd 12 (h:=fun KK hKK=>?_)
 go_simp
 (refine((zb HP) _ _ _ _ [Qh [RR (qj2 true),RR (qas true),RR 0],Qh [RR (eC 1 true),RR 0],Qh [RR (qas true),RR 0],RR 10] (SortsAt.lit (vs:=[_,_,_,_]) (qG zxs) ⟨HO.out _ _ _ _ [_,_,_] [RR (qj2 true),RR (qas true),RR 0] _ hC zxq zxs zxh ⟨HD.out _ _ _ true hA zxq zxq,HT.out _ _ _ true hB1 zxq zxq,(zb H0),trivial⟩,HO.out _ _ _ _ [_,_] [RR (eC 1 true),RR 0] _ hE zxq zxs zxh ⟨HEv.out _ _ _ 1 true hD zxo zxo zxq zxq,(zb H0),trivial⟩,HO.out _ _ _ _ [_,_] [RR (qas true),RR 0] _ hH zxq zxs zxh ⟨HT.out _ _ _ true hF zxq zxq,(zb H0),trivial⟩,(zb H72),trivial⟩)).mono ?_;rintro e wI ⟨he,hbI⟩;rw[hv] at he;subst he)
 (try go_wp2_with fail)
 refine zKK hKK HKP fun hHeld2=>?_;clear hKK KK hHeld;rename _=>hHeld
 refine zTk 13 (h:=?_)
 exact qe1
section
variable (nm:BL→Bool) (tok:BL→Int→Bool) (k f t a:Int) (n:BL) (l:List Tree)
theorem qvO:isR nm tok (.mk 11 f t a n l) 11=(nm n&&qx [qbK nm tok [8,0],qbK nm tok [101,0]] l&&qmo l):=by
 rw[qT,qF]
 simp[QP,qJ,qL,qK,jh,Tree.kind,Tree.name,Tree.kids,qbJ]
 cases nm n<;>cases qmo l<;>simp
theorem quC:isR nm tok (.mk 10 f t a n l) 11=isR nm tok (.mk 10 f t a n l) 10:=by
 exact qnj
theorem qvu:isR nm tok (.mk 14 f t a n l) 11=isR nm tok (.mk 14 f t a n l) 12:=by
 exact qnj
theorem qvp:isR nm tok (.mk 15 f t a n l) 11=isR nm tok (.mk 15 f t a n l) 13:=by
 exact qnj
theorem quV:isR nm tok (.mk 16 f t a n l) 11=(nm n&&qx [fun t=>isR nm tok t 13] l):=by
 rw[qT,qF]
 exact qo4
theorem qvn (h:k=17∨k=18):isR nm tok (.mk k f t a n l) 11=((nm n||n.isEmpty)&&l.isEmpty):=by
 rw[qT,qF]
 rcases h with rfl | rfl<;>simp[QP,qJ,qL,qK,jh,Tree.kind,Tree.name,Tree.kids,qbJ,qN,Bool.or_comm]
theorem quZ:isR nm tok (.mk 19 f t a n l) 11=(n.isEmpty&&(l.isEmpty||qx [fun t=>isR nm tok t 101] l)):=by
 rw[qT,qF]
 cases l<;>simp[QP,qJ,qL,qK,jh,Tree.kind,Tree.name,Tree.kids,qbJ,qN]
theorem quO (h11:k≠11) (h10:k≠10) (h14:k≠14) (h15:k≠15) (h16:k≠16) (h17:k≠17) (h18:k≠18) (h19:k≠19):isR nm tok (.mk k f t a n l) 11=(isR nm tok (.mk k f t a n l) 14||isR nm tok (.mk k f t a n l) 15):=by
 by_cases h12:k=12
 · subst h12
   exact qoW
 by_cases h13:k=13
 · subst h13
   exact qoW
 by_cases h20:k=20
 · subst h20
   exact qoW
 rw[qju,qjq,qT,qF]
 simp[QP,qJ,qL,Tree.kind,h10,h11,h12,h13,h14,h15,h16,h17,h18,h19,h20]
end
end Go.Proofs.YtacdfjlncfidgaaGreatDoor
