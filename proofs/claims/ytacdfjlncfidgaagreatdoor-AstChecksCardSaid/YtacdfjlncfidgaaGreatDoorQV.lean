/- A part of what the claim leans on. -/
import Derived.Test.YtacdfjlncfidgaaGreatDoorQS
import Derived.Test.YtacdfjlncfidgaaGreatDoorQL
import Derived.Test.YtacdfjlncfidgaaGreatDoorQQ
import Derived.Test.YtacdfjlncfidgaaGreatDoorQR
import Derived.Test.YtacdfjlncfidgaaGreatDoorQU
namespace Go.Proofs.YtacdfjlncfidgaaGreatDoor
open Go.RowKit
set_option linter.unusedVariables false
set_option linter.unusedSimpArgs false
set_option maxRecDepth 1000000
set_option maxHeartbeats 6400000
structure Glob3 (w:World):Prop where
 g2:Glob2 w
 fi:FInf w 9
 it:ITab w w.heap.size
 lt:LTab w w.heap.size
 f7:9<w.heap.size
def RDt (s:ByteArray) (d:Nat) (p:Int) (t:Bool):Prop:=Dg s∧∀ w,Calls Tryz.prog 213 #[.string s] w fun e w'=>e = .returned (.tuple #[.int .u64 d,.int .i64 p,.bool false,.bool t,.bool false,.int .i64 s.size,.bool true])∧w=w'
def AT3 (s:ByteArray) (f:Nat) (b:Bool):Prop:=∀ w,Glob3 w→Calls Tryz.prog 210 #[.string s] w fun e w'=>e = .returned (.tuple #[.float .f64 f,.int .i64 s.size,Q6 b])∧Below w.heap.size w w'
theorem qm1 (s:ByteArray) (d:Nat) (p:Int) (t:Bool) (h:RDt s d p t) (hd:d≠0) (hp2:310<p):AT3 s 9218868437227405312 true:=by
 intro w hG
 have h6:=hG.g2.glob.knows.ways
 have HS:=zxi (fun w=>jJ s h.1 w)
 have HR:=zxi h.2
 have hd2:((d:Int) == 0)=false:=by simpa using hd
 have hq:∀ w:World,(callFunc 222 #[.int .u64 9218868437227405312]).run Tryz.prog w = .ok (.value (.float .f64 9218868437227405312)) w:=Qi 9218868437227405312
 have hor:bits BinOp.or IntKind.u64 0 9218868437227405312=9218868437227405312:=by decide
 clear hG h hd
 go_enter Tryz.func210,Tryz.ntmps210
 go_wp2_with (first | (go_at_call 212;refine(HS.out _).mono ?_;rintro e w' ⟨rfl,rfl⟩) | (go_at_call 213;refine(HR.out _).mono ?_;rintro e w' ⟨rfl,rfl⟩) | (go_at_call 221;refine(j6 _).mono ?_;rintro e w' ⟨rfl,rfl⟩))
 exact bodyPost_ret (v:=.tuple #[.float .f64 9218868437227405312,.int .i64 s.size,.iface 200 (.int .i64 1)]) (by simp[results,Tryz.results121,go_sem]) rfl ⟨rfl,Below.refl _ _⟩
theorem qni (s:ByteArray) (d:Nat) (p:Int) (t:Bool) (h:RDt s d p t) (hd:d≠0) (hp2:p < -345):AT3 s 0 false:=by
 intro w hG
 have h6:=hG.g2.glob.knows.ways
 have HS:=zxi (fun w=>jJ s h.1 w)
 have HR:=zxi h.2
 have hd2:((d:Int) == 0)=false:=by simpa using hd
 have hq:∀ w:World,(callFunc 222 #[.int .u64 0]).run Tryz.prog w = .ok (.value (.float .f64 0)) w:=Qi 0
 have hor:bits BinOp.or IntKind.u64 0 0=0:=by decide
 have hp3:¬ 310<p:=by omega
 clear hG h hd
 exact qsu
theorem qpl (s:ByteArray) (d:Nat) (p:Int) (f:Nat) (b b':Bool) (h:RDt s d p true) (hd:d≠0) (hdl:d<18446744073709551615) (hp:¬ p < -345) (hp2:¬ 310<p) (hf:f≤9218868437227405312) (h1:PF d p f b) (h2:PF (d+1) p f b'):AT3 s f b:=by
 intro w hG
 have h6:=hG.g2.glob.knows.ways
 have HS:=zxi (fun w=>jJ s h.1 w)
 have HR:=zxi h.2
 have HP:=zxi (fun w' (hb:Below w.heap.size w w')=>h1 w' (hG.g2.below hb))
 have HP2:=zxi (fun w' (hb:Below w.heap.size w w')=>h2 w' (hG.g2.below hb))
 have hd2:((d:Int) == 0)=false:=by simpa using hd
 have ho:FloatKind.f64.format.order f f=some .eq:=by
  rw[show FloatKind.f64.format=Ieee.double from rfl,qaY zxo zxo (JL hf) (JL hf)]
  refine congrArg some ?_
  simp[compare,compareOfLessAndEq]
 obtain⟨D1,hD1⟩:∃ D1,d+1=D1:=⟨_,rfl⟩
 have e1:IntKind.u64.wrap ((d:Int)+1)=(D1:Int):=by rw[show(d:Int)+1=(D1:Int) by omega];exact qcB _ zxo
 rw[hD1] at HP2
 clear hG h hd h1 h2 hf hdl hD1
 go_enter Tryz.func210,Tryz.ntmps210
 go_wp2_with (first | (go_at_call 212;refine(HS.out _).mono ?_;rintro e w' ⟨rfl,rfl⟩) | (go_at_call 213;refine(HR.out _).mono ?_;rintro e w' ⟨rfl,rfl⟩) | (go_at_call 221;refine(j6 _).mono ?_;rintro e w' ⟨rfl,rfl⟩))
 refine(HP.out _ (Below.refl _ _)).mono ?_
 rintro e w1 ⟨rfl,hb1⟩
 have HB1:=zxi hb1
 clear hb1
 go_wp2_with fail
 refine(HP2.out _ HB1.out).mono ?_
 rintro e w2 ⟨rfl,hb2⟩
 have HB2:=zxi (qa HB1.out hb2)
 clear hb2
 go_wp2_with fail
 exact bodyPost_ret (v:=.tuple #[.float .f64 f,.int .i64 s.size,Q6 b]) (by simp[results,Tryz.results121,go_sem]) rfl ⟨rfl,HB2.out⟩
theorem ITab.more {w:World} {B B':Nat} (h:ITab w B) (hB:B≤B'):ITab w B':=by
 obtain⟨tb,to_,cap,h9,ht,h1,h2⟩:=h
 exact⟨tb,to_,cap,by omega,by omega,h1,h2⟩
theorem LTab.more {w:World} {B B':Nat} (h:LTab w B) (hB:B≤B'):LTab w B':=by
 obtain⟨pb,po,cap,h14,hpb,h1,h2⟩:=h
 exact⟨pb,po,cap,by omega,by omega,h1,h2⟩
theorem qt7 {r c:Nat} (h:r≤9218868437227405312) (h2:c≤9218868437227405312) (hne:r≠c):FloatKind.f64.format.order r c=some .lt∨FloatKind.f64.format.order r c=some .gt:=by
 have hp:∀ x:Nat,x≤9218868437227405312→pl x=(x:Int):=fun x hx=>by
  have:¬ 9223372036854775808≤x:=by omega
  unfold pl sgn
  rw[decide_eq_false this,Nat.mod_eq_of_lt zxo]
  rfl
 rw[show FloatKind.f64.format=Ieee.double from rfl,qaY zxo zxo (JL h) (JL h2),hp r h,hp c h2]
 rcases Nat.lt_or_ge r c with h3 | h3
 · left
   refine congrArg some ?_
   simp only[compare,compareOfLessAndEq]
   rw[if_pos zxo]
 · right;exact congrArg some (qmw zxo)
theorem qnZ:Tryz.zeroCells239=qb3 (List.replicate 800 0) 0 0 false false:=by kernel_rfl
theorem qna (w:World):Dcm (w.alloc (.cells Tryz.zeroCells239 239)) w.heap.size (List.replicate 800 0) 0 0 false false:=⟨by rw[qnZ];exact heap_alloc_new w _,List.length_replicate ..⟩
theorem qm9 (s:ByteArray):s.extract 0 s.size=s:=by simp
theorem qpz (s:ByteArray) (d:Nat) (p:Int) (f f':Nat) (b b':Bool) (v:Nat) (bv:Bool) (h:RDt s d p true) (hd:d≠0) (hdl:d<18446744073709551615) (hp:¬ p < -345) (hp2:¬ 310<p) (hf:f≤9218868437227405312) (hf':f'≤9218868437227405312) (hne:f≠f')
  (h1:PF d p f b) (h2:PF (d+1) p f' b') (σ:SS) (x:Int)
  (hset:∀ (b:Nat) (c:List Nat) (w:World),Dcm w b c 0 0 false false→Calls Tryz.prog 219 #[.pointer (some ⟨b,0,none⟩),.string s] w fun e w'=>e = .returned (.bool true)∧JM w b σ x w')
  (hfb:∀ (b:Nat) (c:List Nat) (w:World),Dcm w b c (σ.D.length:Int) (σ.dp+x) false false→Has c 0 σ.D→FInf w 9→9<b→ITab w b→LTab w b→Calls Tryz.prog 220 #[.pointer (some ⟨b,0,none⟩),.pointer (some ⟨9,0,none⟩)] w fun e w'=>e = .returned (.tuple #[.int .u64 v,.bool bv])∧Below b w w'):AT3 s v bv:=by
 intro w hG
 have HG:=zxi hG
 have h6:=hG.g2.glob.knows.ways
 have HS:=zxi (fun w=>jJ s h.1 w)
 have HR:=zxi h.2
 have HP:=zxi (fun w' (hb:Below w.heap.size w w')=>h1 w' (hG.g2.below hb))
 have HP2:=zxi (fun w' (hb:Below w.heap.size w w')=>h2 w' (hG.g2.below hb))
 have HSET:=zxi hset
 have HFB:=zxi hfb
 have hd2:((d:Int) == 0)=false:=by simpa using hd
 have ho:FloatKind.f64.format.order f f'=some .lt∨FloatKind.f64.format.order f f'=some .gt:=qt7 hf hf' hne
 obtain⟨D1,hD1⟩:∃ D1,d+1=D1:=⟨_,rfl⟩
 have e1:IntKind.u64.wrap ((d:Int)+1)=(D1:Int):=by rw[show(d:Int)+1=(D1:Int) by omega];exact qcB _ zxo
 rw[hD1] at HP2
 have hs0:=qm9 s
 have hq:∀ w:World,(callFunc 222 #[.int .u64 v]).run Tryz.prog w = .ok (.value (.float .f64 v)) w:=Qi v
 clear hG h hd h1 h2 hf hf' hne hdl hD1 hset hfb
 rcases ho with ho | ho
 all_goals
  go_enter Tryz.func210,Tryz.ntmps210
  go_wp2_with (first | (go_at_call 212;refine(HS.out _).mono ?_;rintro e w' ⟨rfl,rfl⟩) | (go_at_call 213;refine(HR.out _).mono ?_;rintro e w' ⟨rfl,rfl⟩) | (go_at_call 221;refine(j6 _).mono ?_;rintro e w' ⟨rfl,rfl⟩))
  refine(HP.out _ (Below.refl _ _)).mono ?_
  rintro e w1 ⟨rfl,hb1⟩
  have HB1:=zxi hb1
  clear hb1
  go_wp2_with fail
  refine(HP2.out _ HB1.out).mono ?_
  rintro e w2 ⟨rfl,hb2⟩
  have HB2:=zxi (qa HB1.out hb2)
  clear hb2
  go_wp2_with fail
  refine(HSET.out _ _ _ (qna w2)).mono ?_
  rintro e w3 ⟨rfl,c',hm,hh,hb3⟩
  have hb23:Below w2.heap.size w2 w3:=((Below.refl w2.heap.size w2).alloc zxn _).trans hb3
  have hsz:=HB2.out.size
  have HFBc:=zxi (HFB.out _ c' w3 hm hh ((HG.out.fi.below HB2.out HG.out.f7).below hb23 (Nat.lt_of_lt_of_le HG.out.f7 hsz)) (Nat.lt_of_lt_of_le HG.out.f7 hsz) (((HG.out.it.below HB2.out).more hsz).below hb23) (((HG.out.lt.below HB2.out).more hsz).below hb23))
  have HB3:=zxi (qa HB2.out hb23)
  have HB23:=zxi hb23
  clear hm hh hb3 hb23 hsz
  go_wp2_with fail
  refine HFBc.out.mono ?_
  rintro e w4 ⟨rfl,hb4⟩
  have HB4:=zxi (qa HB2.out (HB23.out.trans hb4))
  clear hb4
  cases bv
  · go_wp2_with fail
    exact bodyPost_ret (v:=.tuple #[.float .f64 v,.int .i64 s.size,.nilIface]) (by simp[results,Tryz.results121,go_sem]) rfl ⟨rfl,HB4.out⟩
  · go_wp2_with fail
    exact bodyPost_ret (v:=.tuple #[.float .f64 v,.int .i64 s.size,.iface 200 (.int .i64 1)]) (by simp[results,Tryz.results121,go_sem]) rfl ⟨rfl,HB4.out⟩
section
open Go.RowKit Go.Lib
theorem qfe (b o k:Nat):(⟨b,o,none⟩:Addr).add k=⟨b,o+k,none⟩:=by
 unfold Addr.add
 split
 · rename_i h;subst h;rfl
 · rfl
theorem qb4 {w:World} {name:String} {l:List (DataW Unit)} {g T E sz:Nat} (hgn:Tryz.prog.globalNamed name=some g) (hty:(Tryz.prog.globals[g]?).map (·.type)=some T) (hT:Tryz.prog.underlying T=some (.slice E))
  (hsz:Tryz.prog.cellsOf E=sz) (hsz0:0<sz) (hl:l≠[]) (h:VarReads Tryz.prog w name (.slice l [])) :
  ∃ pb po cap,w.cell? ⟨g,0,none⟩=some (.slice (some ⟨pb,po,none⟩) l.length cap)∧∀ i d,l[i]?=some d→∃ (c:List Value) (m:Nat) (b:DataW Unit×List MemPlace),(∀ j v,c[j]?=some v→w.cell? ⟨pb,po+i*sz+j,none⟩=some v)∧c.length=sz ∧
   DataW.trod (fun _=>()) Tryz.prog w 0 (fun _=>true) false m E c=some b∧b.1=d:=by
 obtain⟨g',t,cs,fuel,p,hg,hty',hvar,hd⟩:=h
 obtain rfl:=Option.some.inj (hgn.symm.trans hg)
 obtain rfl:=Option.some.inj (hty.symm.trans hty')
 rcases DataW.trod_slice hT hd with⟨_,hx⟩ | ⟨a,len,cap,el,rs,m,rfl,hcs,hx,_,hlc,_,hel,helem,_,_⟩
 · cases hx
 · have e0:=congrArg Prod.fst hx
   simp only[DataW.slice.injEq] at e0
   obtain⟨eE,_⟩:=e0
   have hlen:len=l.length:=by
    exact qpp
   subst hlen
   have hcell:w.cell? ⟨g,0,none⟩=some (.slice (some a) l.length cap):=by
    have hs:0<cs.size:=by rw[← Array.length_toList,hcs];simp
    rw[Qc hgn hvar 0 hs]
    have:cs=#[.slice (some a) l.length cap]:=by rw[← Array.toList_inj];exact hcs
    subst this;rfl
   rw[hsz] at helem
   have hl0:0<l.length:=List.length_pos_iff.2 hl
   have getc:∀ i,i<l.length→∃ c b,w.cells? 0 (a.add (i*sz)) sz=some c∧DataW.trod (fun _=>()) Tryz.prog w 0 (fun _=>true) false m E c=some b∧el[i]?=some b:=fun i hi=>by
    obtain⟨b,hb⟩:∃ b,el[i]?=some b:=⟨el[i]'zxo,List.getElem?_eq_getElem zxo⟩
    have:=helem i hi
    rw[hb] at this
    obtain⟨c,hc,ht⟩:=Option.bind_eq_some_iff.1 this
    exact⟨c,b,hc,ht,hb⟩
   obtain⟨c0,_,hc0,_,_⟩:=getc 0 hl0
   obtain⟨_,hcl0,hat0⟩:=World.cells?_some hc0
   have hs0:=hat0 0 hsz0
   obtain⟨u0,hu0⟩:∃ u,c0[0]?=some u:=⟨c0[0]'zxo,List.getElem?_eq_getElem zxo⟩
   rw[hu0] at hs0
   have hspot:a.spot=none:=World.cell?_spot (by simpa[Addr.add] using hs0)
   obtain⟨pb,po,spot⟩:=a
   dsimp only at hspot
   subst hspot
   refine⟨pb,po,cap,hcell,fun i d hd'=>?_⟩
   have hi:i<l.length:=(List.getElem?_eq_some_iff.1 hd').1
   obtain⟨c,b,hc,ht,hb⟩:=getc i hi
   obtain⟨_,hcl,hat⟩:=World.cells?_some hc
   refine⟨c,m,b,fun j v hj=>?_,hcl,ht,?_⟩
   · have hjl:j<sz:=by rw[← hcl];exact(List.getElem?_eq_some_iff.1 hj).1
     have:=hat j hjl
     rw[qfe,qfe,hj] at this
     exact this
   · have:=congrArg (fun l=>l[i]?) eE
     simp only[List.getElem?_map,hb,hd',Option.map_some,Option.some.injEq] at this
     exact this.symm
theorem qnT:∀ i:Fin 9,(Rows.laid_internal_strconv_powtab:DataW Unit) = .slice ([0,1,2,3,4,5,6,7,8].map fun i=>.lit (.int .i64 (shN i:Nat))) []:=fun _=>rfl
theorem qnq {w:World} (h:VarReads Tryz.prog w "internal/strconv.powtab" Rows.laid_internal_strconv_powtab):ITab w w.heap.size:=by
 rw[qnT 0] at h
 obtain⟨pb,po,cap,h1,h2⟩:=qb4 (g:=11) (T:=56) (E:=3) (sz:=1) (by kernel_rfl) (by kernel_rfl) Tryz.underlying56 (by kernel_rfl) zxd zxs h
 have hc:∀ i,i<9→w.cell? ⟨pb,po+i,none⟩=some (.int .i64 (shN i:Nat)):=fun i hi=>by
  obtain⟨c,m,b,k1,k2,k3,k4⟩:=h2 i (.lit (.int .i64 (shN i:Nat))) (by
   have:i=0∨i=1∨i=2∨i=3∨i=4∨i=5∨i=6∨i=7∨i=8:=by omega
   rcases this with rfl | rfl | rfl | rfl | rfl | rfl | rfl | rfl | rfl<;>rfl)
  have:=jH Tryz.underlying3 k3 k4
  have h3:=k1 0 _ (by rw[this];rfl)
  simpa using h3
 refine⟨pb,po,cap,qaw h1,qaw (hc 0 zxd),h1,hc⟩
def qqS (k:Nat):Bool:=match Go.Pinned.cheatRows[k]? with | some x=>qcx k x.1 (x.2.map fun c=>c.toNat-48)&&x.2.all (fun c=>decide (48≤c.toNat)) | none=>false
theorem qic:(List.range 60).all (fun j=>qqS (j+1))=true:=by decide +kernel
theorem qjG (s:ByteArray) (l:List UInt8) (hs:s.data.toList=l) (h:l.all (fun c=>decide (48≤c.toNat))=true):qdm s (l.map fun c=>c.toNat-48):=by
 subst hs
 have hsz:s.data.toList.length=s.size:=rfl
 refine And.intro ?_ ?_
 · rw[List.length_map];rfl
 · intro i hi
   have hget:s.data.toList[i]?=some s[i]:=by rw[List.getElem?_eq_getElem (by rw[hsz];exact hi)];rfl
   have h48:=List.all_eq_true.1 h s[i] (List.mem_of_getElem? hget)
   rw[decide_eq_true_eq] at h48
   rw[List.getD_eq_getElem?_getD,List.getElem?_map,hget]
   show s[i].toNat=48+(s[i].toNat-48)
   omega
theorem qhw {w:World} (R:List (Nat×List UInt8)) (hlen:R.length=61) (hall:∀ k,1≤k→k≤60→∃ x,R[k]?=some x∧qcx k x.1 (x.2.map fun c=>c.toNat-48)=true∧x.2.all (fun c=>decide (48≤c.toNat))=true)
  (h:VarReads Tryz.prog w "internal/strconv.leftcheats" (.slice (R.map fun x=>.agg [.lit (.int .i64 x.1),.lit (.string x.2)]) [])):LTab w w.heap.size:=by
 have hne:(R.map fun x=>(DataW.agg [.lit (.int .i64 x.1),.lit (.string x.2)]:DataW Unit))≠[]:=by
  intro e
  rw[List.map_eq_nil_iff] at e
  rw[e] at hlen
  cases hlen
 have q1:Tryz.prog.globalNamed "internal/strconv.leftcheats" = some 15:=by kernel_rfl
 have q2:(Tryz.prog.globals[15]?).map (·.type)=some 281:=by kernel_rfl
 have q3:Tryz.prog.cellsOf 280=2:=by kernel_rfl
 have q4:=Tryz.underlying281
 have q5:=qb4 q1 q2 q4 q3 zxd hne h
 obtain⟨pb,po,cap,h1,h2⟩:=q5
 rw[List.length_map,hlen] at h1
 have hc:∀ k,1≤k→k≤60→∃ (delta:Nat) (s:ByteArray) (C:List Nat),w.cell? ⟨pb,po+k*2,none⟩=some (.int .i64 delta)∧w.cell? ⟨pb,po+k*2+1,none⟩=some (.string s)∧Cheat k delta C∧qdm s C:=fun k hk1 hk=>by
  obtain⟨x,hx,hr1,hr2⟩:=hall k hk1 hk
  obtain⟨c,m,b,k1,k2,k3,k4⟩:=h2 k (.agg [.lit (.int .i64 x.1),.lit (.string x.2)]) (by rw[List.getElem?_map,hx];rfl)
  obtain⟨ys,n,rfl,hy,hyl,hyl2,hyall⟩:=DataW.trod_struct Tryz.underlying280 k3
  have f0:DataW.trod (fun _=>()) Tryz.prog w 0 (fun _=>true) false n 3 ((c.drop 0).take (Tryz.prog.cellsOf 3))=ys[0]?:=hyall 0 _ rfl
  have f1:DataW.trod (fun _=>()) Tryz.prog w 0 (fun _=>true) false n 9 ((c.drop 1).take (Tryz.prog.cellsOf 9))=ys[1]?:=hyall 1 _ rfl
  rw[hy] at k4
  simp only[DataW.agg.injEq] at k4
  obtain⟨y0,y1,rfl⟩:∃ y0 y1,ys=[y0,y1]:=by
   match ys,k4 with
   | [a,c],_=>exact⟨a,c,rfl⟩
  simp only[List.map_cons,List.map_nil,List.cons.injEq,and_true] at k4
  simp only[List.getElem?_cons_zero,List.getElem?_cons_succ] at f0 f1
  rw[show Tryz.prog.cellsOf 3=1 by kernel_rfl] at f0
  rw[show Tryz.prog.cellsOf 9=1 by kernel_rfl] at f1
  have c0:=jH Tryz.underlying3 f0 k4.1
  obtain⟨s,hs,hsy,_⟩:=DataW.trod_string Tryz.underlying9 f1
  have hs2:s.data.toList=x.2:=by
   have:=k4.2
   rw[hsy] at this
   simpa using this
  have g0:=Qq c0 (j:=0) (by rfl)
  have g1:=Qq hs (j:=0) (by rfl)
  have ga:w.cell? ⟨pb,po+k*2,none⟩=some (.int .i64 (x.1:Nat)):=by
   have:=k1 0 _ g0
   rwa [Nat.add_zero] at this
  have gb:w.cell? ⟨pb,po+k*2+1,none⟩=some (.string s):=k1 1 _ g1
  have gsp:=qjG s x.2 hs2 hr2
  exact⟨x.1,s,_,ga,gb,qlH hr1,gsp⟩
 obtain⟨_,_,_,t1,_,_,_⟩:=hc 1 zxd zxd
 exact⟨pb,po,cap,qaw h1,qaw t1,h1,hc⟩
theorem qnv {w:World} (h:VarReads Tryz.prog w "internal/strconv.leftcheats" Go.Pinned.leftcheats):LTab w w.heap.size:=by
 refine qhw Go.Pinned.cheatRows (by decide +kernel) (fun k hk1 hk=>?_) h
 have hr:=List.all_eq_true.1 qic (k-1) (List.mem_range.2 zxo)
 rw[show k-1+1=k by omega] at hr
 unfold qqS at hr
 rcases hx:Go.Pinned.cheatRows[k]? with _ | x
 · rw[hx] at hr;cases hr
 rw[hx] at hr
 simp only[Bool.and_eq_true] at hr
 exact⟨x,rfl,hr.1,hr.2⟩
theorem qi9 {w:World} (h:VarReads Tryz.prog w "internal/strconv.float64info" (.agg [.lit (.int .u64 52),.lit (.int .u64 11),.lit (.int .i64 (-1023))])):FInf w 9:=by
 obtain⟨g,t,cs,fuel,p,hg,hty,hvar,hd⟩:=h
 obtain rfl:=Option.some.inj ((show Tryz.prog.globalNamed "internal/strconv.float64info" = some 9 by kernel_rfl).symm.trans hg)
 obtain rfl:=Option.some.inj ((show(Tryz.prog.globals[9]?).map (·.type)=some 230 by kernel_rfl).symm.trans hty)
 obtain⟨xs,n,rfl,hx,hl,hxl,hall⟩:=DataW.trod_struct Tryz.underlying230 hd
 have h0:DataW.trod (fun _=>()) Tryz.prog w 0 (fun _=>true) false n 74 ((cs.toList.drop 0).take (Tryz.prog.cellsOf 74))=xs[0]?:=hall 0 _ rfl
 have h1:DataW.trod (fun _=>()) Tryz.prog w 0 (fun _=>true) false n 74 ((cs.toList.drop 1).take (Tryz.prog.cellsOf 74))=xs[1]?:=hall 1 _ rfl
 have h2:DataW.trod (fun _=>()) Tryz.prog w 0 (fun _=>true) false n 3 ((cs.toList.drop 2).take (Tryz.prog.cellsOf 3))=xs[2]?:=hall 2 _ rfl
 rw[show Tryz.prog.cellsOf 230=3 by kernel_rfl] at hl
 rw[show Tryz.prog.cellsOf 74=1 by kernel_rfl] at h0 h1
 rw[show Tryz.prog.cellsOf 3=1 by kernel_rfl] at h2
 have e0:xs.map (·.1)=[.lit (.int .u64 52),.lit (.int .u64 11),.lit (.int .i64 (-1023))]:=by
  have:=congrArg Prod.fst hx
  simpa using this.symm
 obtain⟨x0,x1,x2,rfl⟩:∃ x0 x1 x2,xs=[x0,x1,x2]:=by
  match xs,e0 with
  | [a,b,c],_=>exact⟨a,b,c,rfl⟩
 simp only[List.map_cons,List.map_nil,List.cons.injEq,and_true] at e0
 simp only[List.getElem?_cons_zero,List.getElem?_cons_succ] at h0 h1 h2
 have c0:=Qq (jH Tryz.underlying74 h0 e0.1) (j:=0) (by rfl)
 have c1:=Qq (jH Tryz.underlying74 h1 e0.2.1) (j:=0) (by rfl)
 have c2:=Qq (jH Tryz.underlying3 h2 e0.2.2) (j:=0) (by rfl)
 have hsz:cs.size=3:=by rw[← Array.length_toList];exact hl
 refine⟨?_,?_,?_⟩
 · rw[Qc (by kernel_rfl) hvar 0 zxo,← Array.getElem?_eq_getElem,← Array.getElem?_toList];exact c0
 · rw[Qc (by kernel_rfl) hvar 1 zxo,← Array.getElem?_eq_getElem,← Array.getElem?_toList];exact c1
 · rw[Qc (by kernel_rfl) hvar 2 zxo,← Array.getElem?_eq_getElem,← Array.getElem?_toList];exact c2
theorem qlU {w:World} (hsh:w.ShapedOpen Tryz.prog) (hL:laidMet Tryz.prog Rows.astChecksRow.laid w):Glob3 w where
 g2:=qkR hsh hL
 fi:=qi9 (Lib.laidMet.reads hL (by simp[Rows.astChecksRow,Rows.laid_internal_strconv_float64info]))
 it:=qnq (Lib.laidMet.reads hL (by simp[Rows.astChecksRow]))
 lt:=qnv (Lib.laidMet.reads hL (by simp[Rows.astChecksRow,Rows.laid_internal_strconv_leftcheats]))
 f7:=qaw (qi9 (Lib.laidMet.reads hL (by simp[Rows.astChecksRow,Rows.laid_internal_strconv_float64info]))).m
theorem Glob3.below {w w':World} (h:Glob3 w) (hb:Below w.heap.size w w'):Glob3 w' where
 g2:=h.g2.below hb
 fi:=h.fi.below hb h.f7
 it:=(h.it.below hb).more hb.size
 lt:=(h.lt.below hb).more hb.size
 f7:=Nat.lt_of_lt_of_le h.f7 hb.size
end
structure SSD (σ:SS) (k:Nat):Prop where
 dg:Digs σ.D
 lead:σ.D≠[]→Lead σ.D
 len:σ.D.length+σ.dot.toNat≤k
theorem SSD.step {σ:SS} {k:Nat} {c:UInt8} (h:SSD σ k) (hc:qf c=true∨(c=46∧σ.dot=false)):SSD (σ.step c) (k+1):=by
 obtain⟨h1,h2,h3⟩:=h
 by_cases a:c=46
 · subst a
   have hd:σ.dot=false:=by
    rcases hc with hc | hc
    · exact absurd hc zxd
    · exact hc.2
   rw[qfV]
   rw[hd] at h3
   exact⟨h1,h2,by simp only[Bool.toNat_true];simp only[Bool.toNat_false] at h3;omega⟩
 · have hdg:qf c=true:=by
    rcases hc with hc | hc
    · exact hc
    · exact absurd hc.1 a
   simp only[qf,Bool.and_eq_true,decide_eq_true_eq] at hdg
   by_cases b:c=48∧σ.D=[]
   · rw[qcS b.1 b.2]
     exact⟨h1,h2,by simp only;omega⟩
   · rw[qe9 a b]
     refine⟨h1.snoc zxo,fun _=>qdK h2 fun e=>?_,by simp only[List.length_append,List.length_singleton];omega⟩
     intro h0
     exact b ⟨UInt8.toNat_inj.1 (show c.toNat=48 by omega),e⟩
theorem qjf {L:List UInt8} {P:Nat} (h:Scan L P):∀ k,k≤P→SSD (jZ L k) k
 | 0,_=>⟨Digs.nil,fun e=>absurd rfl e,Nat.le_refl _⟩
 | k+1,hk=>by
  have ih:=qjf h k zxo
  have hle:=h.le
  have hg:L[k]?=some (L[k]'zxo):=List.getElem?_eq_getElem _
  rw[qaa hg]
  refine ih.step ?_
  rcases h.bytes k _ zxo hg with h1 | ⟨h1,h2⟩
  · exact .inl h1
  · exact .inr ⟨h1,by rw[← (h.rs_ss (show k≤P by omega)).dot];exact h2⟩
def jW (A:Nat) (z:Int) (K:Nat):Nat:=rd (A*10^z.toNat*2^K) (10^(-z).toNat)
theorem qeB (A:Nat) (z:Int) (K a b:Nat) (h:z=(a:Int)-b):jW A z K=rd (A*10^a*2^K) (10^b):=by
 obtain⟨c,ha,hb⟩:∃ c,a=z.toNat+c∧b=(-z).toNat+c:=⟨min a b,by omega,by omega⟩
 unfold jW
 rw[ha,hb,Nat.pow_add,Nat.pow_add,← J8 _ _ (10^c) (Nat.pow_pos zxd) (Nat.pow_pos zxd)]
 refine congrArg (fun x=>rd x _) ?_
 generalize 10^z.toNat=X
 generalize 10^c=C
 generalize 2^K=k
 grind
theorem qaE (A j:Nat) (z:Int) (K:Nat):jW (A*10^j) z K=jW A (z+j) K:=by
 rw[qeB A (z+j) K (z.toNat+j) (-z).toNat zxo]
 unfold jW
 rw[Nat.pow_add]
 refine congrArg (fun x=>rd x _) ?_
 generalize 10^z.toNat=X
 generalize 10^j=C
 generalize 2^K=k
 grind
theorem qdX {A B:Nat} (z:Int) (K:Nat) (h:A≤B):jW A z K≤jW B z K :=
 qcU (Nat.pow_pos zxd) (Nat.mul_le_mul_right _ (Nat.mul_le_mul_right _ h))
theorem tt5 (a c:Nat) (ha:a=1024) (hc:c=310):2^a≤10^c:=by rw[ha,hc];decide +kernel
theorem tt6 (a c:Nat) (ha:a=1075) (hc:c=326):2^a≤10^c:=by rw[ha,hc];decide +kernel
theorem qfq {A nd:Nat} {z:Int} (K:Nat) (hK:K=1074) (hA:10^(nd-1)≤A) (hn:0<nd) (h:310≤z+nd-1):jW A z K=9218868437227405312:=by
 obtain⟨a,ha⟩:∃ a,a=1024:=⟨_,rfl⟩
 obtain⟨c,hc⟩:∃ c,c=310:=⟨_,rfl⟩
 obtain⟨k,hk⟩:∃ k,k=2046:=⟨_,rfl⟩
 refine qql _ _ k zxo (Nat.pow_pos zxd) ?_
 have e1:2^52*2^k=2^a*2^K:=by rw[← Nat.pow_add,← Nat.pow_add];congr 1;omega
 have e2:10^(-z).toNat*10^c≤A*10^z.toNat:=by
  refine Nat.le_trans ?_ (Nat.mul_le_mul_right _ hA)
  exact qpe
 have e3:=tt5 a c ha hc
 calc 10^(-z).toNat*2^52*2^k=10^(-z).toNat*2^a*2^K:=by rw[Nat.mul_assoc,e1,Nat.mul_assoc]
  _≤10^(-z).toNat*10^c*2^K:=Nat.mul_le_mul_right _ (Nat.mul_le_mul_left _ e3)
  _≤A*10^z.toNat*2^K:=Nat.mul_le_mul_right _ e2
theorem qdd {A nd:Nat} {z:Int} (K:Nat) (hK:K=1074) (hA:A≤10^nd) (h:z+nd ≤ -326):jW A z K=0:=by
 obtain⟨a,ha⟩:∃ a,a=1075:=⟨_,rfl⟩
 obtain⟨c,hc⟩:∃ c,c=326:=⟨_,rfl⟩
 refine qjY _ _ (Nat.pow_pos zxd) ?_
 have e1:2*2^K=2^a:=by rw[Nat.mul_comm,← Nat.pow_succ];congr 1;omega
 have e3:=tt6 a c ha hc
 rw[show z.toNat=0 by omega,Nat.pow_zero,Nat.mul_one]
 calc 2*(A*2^K)=A*(2*2^K):=by rw[Nat.mul_left_comm]
  _≤10^nd*10^c:=by rw[e1];exact Nat.mul_le_mul hA e3
  _≤10^(-z).toNat:=by rw[← Nat.pow_add];exact Nat.pow_le_pow_right zxd zxo
theorem qfP:∀ (l:List Nat),l.any (fun d=>d != 0)=false→dv l=0
 | [],_=>rfl
 | d::l,h=>by
  simp only[List.any_cons,Bool.or_eq_false_iff] at h
  have h0:d=0:=by simpa using h.1
  rw[j9,qfP l h.2,h0]
  simp
theorem qiQ {s:ByteArray} {f:Nat} {b:Bool} (h:AT s f b):AT3 s f b:=fun w hG=>h w hG.g2
theorem qq4 {s:ByteArray} {f f':Nat} {b b':Bool} (h:AT3 s f b) (hf:f=f') (hb:b=b'):AT3 s f' b':=by rw[← hf,← hb];exact h
theorem QS {r:Nat} (h:r<9218868437227405312):(r == 9218868437227405312)=false:=by rw[beq_eq_false_iff_ne];omega
theorem qgB {r:Nat} (h:r=9218868437227405312):(r == 9218868437227405312)=true:=by rw[h];exact qaf _
theorem qcR (A:Nat) (z:Int) (K:Nat):jW A z K≤9218868437227405312:=qu7 _ _
theorem qtF (σ:SS) (k K:Nat) (x:Int) (hK:K=1074) (hd:SSD σ k) (hk:σ.D.length≤59) (hne:σ.D≠[]) (b:Nat) (c:List Nat) (w:World) (hm:Dcm w b c (σ.D.length:Int) (σ.dp+x) false false) (hc:Has c 0 σ.D) (hF:FInf w 9) (h7:9<b) (hI:ITab w b) (hT:LTab w b) :
  Calls Tryz.prog 220 #[.pointer (some ⟨b,0,none⟩),.pointer (some ⟨9,0,none⟩)] w fun e w'=>e = .returned (.tuple #[.int .u64 (jW (dv σ.D) (σ.dp+x-σ.D.length) K:Nat),.bool (jW (dv σ.D) (σ.dp+x-σ.D.length) K == 9218868437227405312)])∧Below b w w':=by
 have hl:=hd.lead hne
 have hpos:0<σ.D.length:=List.length_pos_iff.2 hne
 have hge:=qbR hl
 have hlt:=Jz hd.dg
 generalize hA:dv σ.D=A at *
 by_cases h1:310<σ.dp+x
 · have ht:=qfq (z:=σ.dp+x-σ.D.length) K hK hge hpos zxo
   rw[ht,qaf]
   exact qpa b 9 c σ.D (σ.dp+x) w hm hne h1 hF
 · by_cases h2:σ.dp+x < -330
   · have ht:=qdd (z:=σ.dp+x-σ.D.length) K hK (Nat.le_of_lt hlt) zxo
     rw[ht,QS zxd]
     exact qox b 9 c σ.D (σ.dp+x) w hm hne h2 hF
   · obtain⟨y,hy⟩:∃ y,σ.dp+x=y:=⟨_,rfl⟩
     rw[hy] at hm h1 h2 ⊢
     obtain⟨z,hz⟩:∃ z,y-(σ.D.length:Int)=z:=⟨_,rfl⟩
     have hA59:A<10^59:=Nat.lt_of_lt_of_le hlt (Nat.pow_le_pow_right zxd hk)
     have hA0:0<A:=by have:=Nat.pow_pos (n:=σ.D.length-1) (show 0<10 by decide);omega
     have hbig:=qpT A z.toNat (-z).toNat hA59 hA0
     have hval:Val A (y-σ.D.length) (A*10^z.toNat) (10^(-z).toNat):=by
      rw[j7 z.toNat (-z).toNat zxo]
     have hmid:Mid (A*10^z.toNat) (10^(-z).toNat):=by
      refine⟨hbig.1,hbig.2.1,fun k hk=>?_,fun k hk=>?_⟩
      · have h3:A*10^z.toNat<10^σ.D.length*10^z.toNat:=Nat.mul_lt_mul_of_pos_right hlt (Nat.pow_pos zxd)
        have h4:10^σ.D.length*10^z.toNat≤10^(-z).toNat*10^k:=by
         exact qpe
        omega
      · have h3:10^(σ.D.length-1)*10^z.toNat*10^k≤A*10^z.toNat*10^k:=Nat.mul_le_mul_right _ (Nat.mul_le_mul_right _ hge)
        refine Nat.le_trans ?_ h3
        exact qpe
     have hDS:DS w b false false (A*10^z.toNat) (10^(-z).toNat) 0 c σ.D y:=by
      refine⟨hm,hc,hd.dg,hl,by omega,?_⟩
      rw[hA,qht]
      exact hval
     have hr:rd (A*10^z.toNat*2^K) (10^(-z).toNat)=jW A (y-σ.D.length) K:=by rw[hz];rfl
     exact qn9 b 9 _ _ c σ.D y K _ hK hr w hDS hbig hmid zxo zxo hF h7 hI hT
theorem qst (s:ByteArray) (P K:Nat) (x:Int) (hK:K=1074) (h:Scan s.data.toList P) (hDg:Dg s) (hx : -1000<x) (hx2:x<1000)
  (hread:∀ w,Calls Tryz.prog 213 #[.string s] w fun e w'=>e = .returned (.tuple #[.int .u64 (je s.data.toList P).mant,.int .i64 (JE (je s.data.toList P) x),.bool false,.bool (je s.data.toList P).trunc,.bool false,.int .i64 s.size,.bool true])∧w=w')
  (hset:∀ (b:Nat) (c:List Nat) (w:World),Dcm w b c 0 0 false false→Calls Tryz.prog 219 #[.pointer (some ⟨b,0,none⟩),.string s] w fun e w'=>e = .returned (.bool true)∧JM w b (jZ s.data.toList P) x w') :
  AT3 s (jW (dv (jZ s.data.toList P).D) ((jZ s.data.toList P).dp+x-(jZ s.data.toList P).D.length) K) (jW (dv (jZ s.data.toList P).D) ((jZ s.data.toList P).dp+x-(jZ s.data.toList P).D.length) K == 9218868437227405312):=by
 have hR:=h.rs_ss (Nat.le_refl P)
 have hD:=qjf h P (Nat.le_refl P)
 have hOK:=SS.ok s.data.toList P
 have hm60:=h.most
 have hPle:=h.le
 have hdot:=hR.dot.symm.trans h.dot
 have hlen:=hD.len
 rw[hdot] at hlen
 simp only[Bool.toNat_true] at hlen
 have hfb:=fun hne=>qtF (jZ s.data.toList P) P K x hK hD zxo hne
 have hdp0:=hOK.dp0
 have hdp1:=hOK.dp1
 generalize jZ s.data.toList P=σ at *
 generalize je s.data.toList P=ρ at *
 obtain⟨r1,r2,r3,r4,r5,r6,r7⟩:=hR
 by_cases hne:σ.D=[]
 · have hm0:ρ.mant=0:=by rw[r6,hne];rfl
   have ht0:ρ.trunc=false:=by rw[r7,hne];rfl
   rw[hm0,ht0] at hread
   have hz:jW (dv σ.D) (σ.dp+x-σ.D.length) K=0:=by
    rw[hne];unfold jW;rw[qjd,Nat.zero_mul,Nat.zero_mul,qej]
   rw[hz,QS zxd]
   exact qiQ (qjF s _ ⟨hDg,hread⟩)
 have hl:=hD.lead hne
 have hpos:0<σ.D.length:=List.length_pos_iff.2 hne
 have hl19:Lead (σ.D.take 19):=qbi hl zxd
 have hd19:=hD.dg.take 19
 have hge:=qbR hl19
 have hlt:=Jz hd19
 have hgeA:=qbR hl
 have hltA:=Jz hD.dg
 have hsplit:dv σ.D=dv (σ.D.take 19)*10^(σ.D.length-19)+dv (σ.D.drop 19):=by
  conv=>lhs;rw[← List.take_append_drop 19 σ.D]
  rw[qdC,List.length_drop]
 have hrest:dv (σ.D.drop 19)<10^(σ.D.length-19):=by rw[← List.length_drop];exact Jz (hD.dg.drop 19)
 rw[← r6] at hge hlt hsplit
 rw[List.length_take] at hge hlt
 have hd19':ρ.mant<10000000000000000000:=by
  have:10^min 19 σ.D.length≤10^19:=Nat.pow_le_pow_right zxd zxo
  have e:(10:Nat)^19=10000000000000000000:=by decide
  omega
 have hm0:ρ.mant≠0:=by have:=Nat.pow_pos (n:=min 19 σ.D.length-1) (show 0<10 by decide);omega
 have hex:JE ρ x=ρ.dp+x-ρ.ndm:=by unfold JE;rw[if_neg hm0]
 rw[hex] at hread
 obtain⟨p,hp⟩:∃ p,ρ.dp+x-(ρ.ndm:Int)=p:=⟨_,rfl⟩
 rw[hp] at hread
 obtain⟨z,hz⟩:∃ z,σ.dp+x-(σ.D.length:Int)=z:=⟨_,rfl⟩
 have hzp:p=z+((σ.D.length-19:Nat):Int):=by omega
 have hpl : -1100≤p∧p≤1100:=by omega
 have hfb':=hfb hne
 rw[hz] at hfb' ⊢
 obtain⟨d,hd⟩:∃ d,ρ.mant=d:=⟨_,rfl⟩
 rw[hd] at hread hge hlt hsplit hd19' hm0
 obtain⟨A,hA⟩:∃ A,dv σ.D=A:=⟨_,rfl⟩
 rw[hA] at hfb' hsplit hgeA hltA ⊢
 obtain⟨J,hJ⟩:∃ J,σ.D.length-19=J:=⟨_,rfl⟩
 rw[hJ] at hsplit hrest hzp
 have hlo:jW d p K≤jW A z K:=by
  rw[hzp,← qaE];exact qdX z K zxo
 have hhi:jW A z K≤jW (d+1) p K:=by
  rw[hzp,← qaE];exact qdX z K (by rw[Nat.add_mul,Nat.one_mul];omega)
 by_cases hp1:310<p
 · have ht:jW A z K=9218868437227405312:=qfq K hK hgeA hpos zxo
   rw[ht,qaf]
   exact qm1 s d p _ ⟨hDg,hread⟩ hm0 hp1
 by_cases hp2:p < -345
 · have ht:jW A z K=0:=qdd K hK (Nat.le_of_lt hltA) zxo
   rw[ht,QS zxd]
   exact qni s d p _ ⟨hDg,hread⟩ hm0 hp2
 have hpf:=qmm d p K hK zxo zxo zxo zxo
 cases ht:ρ.trunc
 · rw[ht] at hread
   have hr0:dv (σ.D.drop 19)=0:=qfP _ (by rw[← r7];exact ht)
   have e:jW A z K=jW d p K:=by rw[hsplit,hr0,Nat.add_zero,qaE,hzp]
   rw[e]
   obtain⟨g,ok,hx1,hx2'⟩:=qt4 d p K hK zxo zxo zxo zxo
   cases ok
   · exact qiQ (qmQ s d p g _ _ ⟨hDg,hread⟩ hm0 hp2 hp1 hx1 hpf)
   · obtain⟨g1,g2⟩:=hx2' rfl
     have h3:=qiQ (qgQ s d p g ⟨hDg,hread⟩ hm0 hp2 hp1 hx1)
     exact qq4 h3 g1 (by rw[show jW d p K=g from g1.symm];exact(QS g2).symm)
 · rw[ht] at hread
   have hpf2:=qmm (d+1) p K hK zxo zxo zxo zxo
   by_cases heq:jW d p K=jW (d+1) p K
   · have e:jW A z K=jW d p K:=by omega
     rw[e]
     have hpf3:PF (d+1) p (jW d p K) (jW (d+1) p K == 9218868437227405312):=by rw[heq];exact hpf2
     exact qpl s d p _ _ _ ⟨hDg,hread⟩ hm0 zxo hp2 hp1 (qcR _ _ _) hpf hpf3
   · exact qpz s d p _ _ _ _ _ _ ⟨hDg,hread⟩ hm0 zxo hp2 hp1 (qcR d p K) (qcR (d+1) p K) heq hpf hpf2 σ x hset (fun b c w hm hc hF h7 hI hT=>hfb' b c w hm hc hF h7 hI hT)
theorem qje (s:ByteArray) (f:Nat) (h:AT3 s f false) (w:World) (hG:Glob3 w):Calls Tryz.prog 185 #[.string s,.int .i64 64] w fun e w'=>e = .returned (.tuple #[.float .f64 f,.nilIface])∧Below w.heap.size w w':=by
 have HA:=zxi (show Calls Tryz.prog 210 #[.string s] w fun e w'=>e = .returned (.tuple #[.float .f64 f,.int .i64 s.size,.nilIface])∧Below w.heap.size w w' from h w hG)
 have HB:RowKit.Hid (Calls Tryz.prog 202 #[.string s,.int .i64 64] w fun e w'=>e = .returned (.tuple #[.float .f64 f,.int .i64 s.size,.nilIface])∧Below w.heap.size w w'):=zxi (by
  clear h hG
  go_enter Tryz.func202,Tryz.ntmps202
  go_wp2_with (go_at_call 210;refine HA.out.mono ?_;rintro e w' ⟨rfl,hb⟩)
  exact bodyPost_ret (v:=.tuple #[.float .f64 f,.int .i64 s.size,.nilIface]) (by simp[results,Tryz.results104,go_sem]) rfl ⟨rfl,hb⟩)
 clear HA
 have HC:RowKit.Hid (Calls Tryz.prog 194 #[.string s,.int .i64 64] w fun e w'=>e = .returned (.tuple #[.float .f64 f,.nilIface])∧Below w.heap.size w w'):=zxi (by
  clear h hG
  go_enter Tryz.func194,Tryz.ntmps194
  go_wp2_with (go_at_call 202;refine HB.out.mono ?_;rintro e w' ⟨rfl,hb⟩)
  go_ret2
  exact⟨rfl,hb⟩)
 clear h hG HB
 go_enter Tryz.func185,Tryz.ntmps185
 go_wp2_with (go_at_call 194;refine HC.out.mono ?_;rintro e w' ⟨rfl,hb⟩)
 go_ret2
 exact⟨rfl,hb⟩
theorem qgk (s:ByteArray) (f:Nat) (h:AT3 s f true) (hs:s.size≤60) (w:World) (hG:Glob3 w):Calls Tryz.prog 185 #[.string s,.int .i64 64] w fun e w'=>(∃ N:Nat,e = .returned (.tuple #[.float .f64 f,.iface 203 (.pointer (some ⟨N,0,none⟩))]))∧Below w.heap.size w w':=by
 have HA:=zxi (show Calls Tryz.prog 210 #[.string s] w fun e w'=>e = .returned (.tuple #[.float .f64 f,.int .i64 s.size,.iface 200 (.int .i64 1)])∧Below w.heap.size w w' from h w hG)
 have HB:RowKit.Hid (Calls Tryz.prog 202 #[.string s,.int .i64 64] w fun e w'=>e = .returned (.tuple #[.float .f64 f,.int .i64 s.size,.iface 200 (.int .i64 1)])∧Below w.heap.size w w'):=zxi (by
  clear h hG
  go_enter Tryz.func202,Tryz.ntmps202
  go_wp2_with (go_at_call 210;refine HA.out.mono ?_;rintro e w' ⟨rfl,hb⟩)
  exact bodyPost_ret (v:=.tuple #[.float .f64 f,.int .i64 s.size,.iface 200 (.int .i64 1)]) (by simp[results,Tryz.results104,go_sem]) rfl ⟨rfl,hb⟩)
 clear HA
 have HC:RowKit.Hid (Calls Tryz.prog 194 #[.string s,.int .i64 64] w fun e w'=>e = .returned (.tuple #[.float .f64 f,.iface 200 (.int .i64 1)])∧Below w.heap.size w w'):=zxi (by
  clear h hG
  go_enter Tryz.func194,Tryz.ntmps194
  go_wp2_with (go_at_call 202;refine HB.out.mono ?_;rintro e w' ⟨rfl,hb⟩)
  go_ret2
  exact⟨rfl,hb⟩)
 have HT:=zxi (show ∀ w',Below w.heap.size w w'→Calls Tryz.prog 193 #[.string ⟨#[80,97,114,115,101,70,108,111,97,116]⟩,.string s,.int .i64 0,.int .i64 64,.iface 200 (.int .i64 1)] w' fun e w2=>(∃ N:Nat,e = .returned (.iface 203 (.pointer (some ⟨N,0,none⟩))))∧Below w'.heap.size w' w2 from fun w' hb=>by
  obtain⟨ev,h1,h2⟩:=(hG.below hb).g2.err
  exact(Tryz.strconv_toError_range ⟨#[80,97,114,115,101,70,108,111,97,116]⟩ s 0 64 ev w' zxo h1 h2).mono fun e w2 ⟨N,h3,_,_,h4⟩=>⟨⟨N,h3⟩,h4⟩)
 clear h hG HB
 go_enter Tryz.func185,Tryz.ntmps185
 go_wp2_with (first | (go_at_call 194;refine HC.out.mono ?_;rintro e w' ⟨rfl,hb⟩) | (go_at_call 193;refine(HT.out _ hb).mono ?_;rintro e w2 ⟨⟨N,rfl⟩,hb2⟩))
 go_ret2
 exact⟨⟨N,rfl⟩,qa hb hb2⟩
theorem qdJ (s:ByteArray) (f:Nat) (h:AT3 s f false) (hs:s.size≤60) (w:World) (hG:Glob3 w) (hf:Calls Tryz.prog 184 #[.string s] w fun e w'=>e = .returned (.bool true)∧Below w.heap.size w w') :
  Calls Tryz.prog 173 #[.string s] w fun e w'=>e = .returned (.tuple #[.float .f64 f,.int .i64 0])∧Below w.heap.size w w':=by
 have HF:=zxi hf
 have HP:=zxi (fun w' (hb:Below w.heap.size w w')=>qje s f h w' (hG.below hb))
 have hs2:¬ (60:Int)<(s.size:Int):=by omega
 clear h hG hf
 go_enter Tryz.func173,Tryz.ntmps173
 go_wp2_with (first | (go_at_call 184;refine HF.out.mono ?_;rintro e w1 ⟨rfl,hb1⟩) | (go_at_call 185;refine(HP.out _ hb1).mono ?_;rintro e w2 ⟨rfl,hb2⟩))
 go_ret2
 exact⟨rfl,qa hb1 hb2⟩
theorem qcE (s:ByteArray) (f:Nat) (h:AT3 s f true) (hs:s.size≤60) (w:World) (hG:Glob3 w) (hf:Calls Tryz.prog 184 #[.string s] w fun e w'=>e = .returned (.bool true)∧Below w.heap.size w w') :
  Calls Tryz.prog 173 #[.string s] w fun e w'=>e = .returned (.tuple #[.float .f64 0,.int .i64 3])∧Below w.heap.size w w':=by
 have HF:=zxi hf
 have HP:=zxi (fun w' (hb:Below w.heap.size w w')=>qgk s f h hs w' (hG.below hb))
 have hs2:¬ (60:Int)<(s.size:Int):=by omega
 clear h hG hf
 go_enter Tryz.func173,Tryz.ntmps173
 go_wp2_with (first | (go_at_call 184;refine HF.out.mono ?_;rintro e w1 ⟨rfl,hb1⟩) | (go_at_call 185;refine(HP.out _ hb1).mono ?_;rintro e w2 ⟨⟨N,rfl⟩,hb2⟩))
 go_ret2
 exact⟨rfl,qa hb1 hb2⟩
end Go.Proofs.YtacdfjlncfidgaaGreatDoor
