/- A part of what the claim leans on. -/
import Derived.Test.YtacdfjlncfidgaaGreatDoorQS
import Derived.Test.YtacdfjlncfidgaaGreatDoorQW
namespace Go.Proofs.YtacdfjlncfidgaaGreatDoor
open Go.RowKit
set_option linter.unusedVariables false
set_option linter.unusedSimpArgs false
set_option maxRecDepth 100000
set_option maxHeartbeats 1600000
theorem qdo:∀ (x y:List UInt8),(∀ c∈x,c≠46)→Lib.index (x++46::y) [46]=(x.length:Int)
 | [],y,_=>by simp[Lib.index]
 | a::x,y,h=>by
  have ha:a≠46:=h a (List.mem_cons_self ..)
  have ih:=qdo x y (fun c hc=>h c (List.mem_cons_of_mem _ hc))
  have hb:((46:UInt8) == a)=false:=by rw[beq_eq_false_iff_ne];exact fun e=>ha e.symm
  show Lib.index (a::(x++46::y)) [46]=_
  unfold Lib.index
  rw[ih]
  have h2:((x.length:Int) == -1)=false:=by rw[beq_eq_false_iff_ne];omega
  simp[List.isPrefixOf,hb,h2]
theorem qdY:∀ (x:List UInt8),(∀ c∈x,c≠46)→Lib.index x [46] = -1
 | [],_=>rfl
 | a::x,h=>by
  have ha:a≠46:=h a (List.mem_cons_self ..)
  have ih:=qdY x (fun c hc=>h c (List.mem_cons_of_mem _ hc))
  have hb:((46:UInt8) == a)=false:=by rw[beq_eq_false_iff_ne];exact fun e=>ha e.symm
  unfold Lib.index
  rw[ih]
  simp[List.isPrefixOf,hb]
theorem qhq (x y:List UInt8) (h:∀ c∈x,c≠46):Lib.cut (x++46::y) [46]=(x,y,true):=by
 unfold Lib.cut
 rw[qdo x y h,if_pos zxo,Int.toNat_natCast]
 rw[List.take_left]
 congr 2
 simp
theorem qpd (x:List UInt8) (h:∀ c∈x,c≠46):Lib.cut x [46]=(x,[],false):=by
 unfold Lib.cut
 rw[qdY x h,if_neg zxd]
theorem qnu (L:List UInt8):(∀ c∈L,c≠46)∨∃ x y,L=x++46::y∧∀ c∈x,c≠46:=by
 induction L with
 | nil=>exact .inl (fun _ h=>by cases h)
 | cons a L ih =>
  by_cases ha:a=46
  · exact .inr ⟨[],L,by rw[ha];rfl,fun _ h=>(by cases h)⟩
  · rcases ih with ih | ⟨x,y,e,h⟩
    · refine .inl fun c hc=>?_
      rcases List.mem_cons.1 hc with rfl | hc
      · exact ha
      · exact ih c hc
    · refine .inr ⟨a::x,y,by rw[e];rfl,fun c hc=>?_⟩
      rcases List.mem_cons.1 hc with rfl | hc
      · exact ha
      · exact h c hc
theorem qcw {x:List UInt8} (h:∀ c∈x,qf c=true):∀ c∈x,c≠46:=fun c hc e=>by
 have:=h c hc
 rw[e] at this
 exact absurd this zxd
theorem qoy {x:List UInt8} (hne:x≠[]) (hd:∀ c∈x,qf c=true) (h1:x.length=1∨x[0]?≠some 48):QG x=true:=by
 have he:x.isEmpty=false:=by cases x with
  | nil=>exact absurd rfl hne
  | cons _ _=>rfl
 unfold QG
 rw[he,JV _ hd]
 rcases h1 with h1 | h1<;>simp[h1]
theorem qap (L:List UInt8):∃ u r,L=u++r∧(∀ c∈u,qf c=true)∧u.length=digN L∧(r=[]∨∃ c t,r=c::t∧qf c=false):=by
 induction L with
 | nil=>exact⟨[],[],rfl,fun _ h=>(by cases h),rfl,.inl rfl⟩
 | cons a L ih =>
  cases ha:qf a
  · refine⟨[],a::L,rfl,fun _ h=>(by cases h),?_,.inr ⟨a,L,rfl,ha⟩⟩
    simp[digN,List.takeWhile_cons,ha]
  · obtain⟨u,r,e,h1,h2,h3⟩:=ih
    refine⟨a::u,r,by rw[e];rfl,fun c hc=>?_,?_,h3⟩
    · rcases List.mem_cons.1 hc with rfl | hc
      · exact ha
      · exact h1 c hc
    · have:digN (a::L)=digN L+1:=by simp[digN,List.takeWhile_cons,ha]
      rw[this,← h2];rfl
theorem qck {u r:List UInt8} (h:∀ c∈u,qf c=true) (hr:r=[]∨∃ c t,r=c::t∧qf c=false):digN (u++r)=u.length:=by
 refine qaj zxs (fun c hc=>h c (by rw[List.take_left] at hc;exact hc)) ?_
 rcases hr with rfl | ⟨c,t,rfl,hd⟩
 · left;simp
 · right;exact⟨c,by simp,hd⟩
def Head (L x y:List UInt8):Prop:=L=x++46::y∧QG x=true
theorem Head.cut {L x y:List UInt8} (h:Head L x y):Lib.cut L [46]=(x,y,true):=by
 obtain⟨rfl,hn⟩:=h
 exact qhq x y (qcw (QK hn).2.1)
theorem qgq {L:List UInt8} (h:¬ ∃ x y,Head L x y):(Lib.cut L [46]).2.2=false∨(Lib.cut L [46]).2.2=true∧QG (Lib.cut L [46]).1=false:=by
 rcases qnu L with h1 | ⟨x,y,e,h1⟩
 · rw[qpd _ h1];exact .inl rfl
 · right
   have hc:=qhq x y h1
   rw[← e] at hc
   rw[hc]
   refine⟨rfl,?_⟩
   cases hn:QG x
   · rfl
   · exact absurd ⟨x,y,e,hn⟩ h
theorem Head.digN {L x y:List UInt8} (h:Head L x y):digN L=x.length:=by
 obtain⟨rfl,hn⟩:=h
 exact qck (QK hn).2.1 (.inr ⟨46,y,rfl,by decide⟩)
theorem qf6 {L:List UInt8} (h:¬ ∃ x y,Head L x y):digN L=0∨(1<digN L∧L[0]?=some 48)∨digN L=L.length∨(digN L<L.length∧L[digN L]?≠some 46):=by
 obtain⟨u,r,e,h1,h2,h3⟩:=qap L
 by_cases a0:digN L=0
 · exact .inl a0
 by_cases a1:1<digN L∧L[0]?=some 48
 · exact .inr (.inl a1)
 rcases h3 with rfl | ⟨c,t,rfl,hc⟩
 · right;right;left
   rw[e,List.append_nil] at h2 ⊢
   exact h2.symm
 · right;right;right
   have hlt:digN L<L.length:=by rw[← h2,e];simp
   refine⟨hlt,fun h46=>h ⟨u,t,?_,?_⟩⟩
   · have hg:L[digN L]?=some c:=by rw[← h2,e];simp
     rw[hg] at h46
     rw[e];congr 1
     rw[Option.some.inj h46]
   · have hne:u≠[]:=fun e2=>a0 (by rw[← h2,e2];rfl)
     refine qoy hne h1 ?_
     by_cases hl:u.length=1
     · exact .inl hl
     · right
       intro h48
       refine a1 ⟨by have:=List.length_pos_iff.2 hne;omega,?_⟩
       rw[e,List.getElem?_append_left (List.length_pos_iff.2 hne)]
       exact h48
theorem qeE:∀ (l:List UInt8) (σ:SS),(∀ c∈l,qf c=true)→dv (l.foldl SS.step σ).D=qM (dv σ.D) l∧(l.foldl SS.step σ).dp-((l.foldl SS.step σ).D.length:Int)=σ.dp-(σ.D.length:Int)-(l.length:Int)
 | [],σ,_=>⟨rfl,by simp⟩
 | c::l,σ,h=>by
  have hc:=h c (List.mem_cons_self ..)
  have h46:c≠46:=fun e=>by rw[e] at hc;exact absurd hc zxd
  obtain⟨i1,i2⟩:=qeE l (σ.step c) (fun d hd=>h d (List.mem_cons_of_mem _ hd))
  rw[List.foldl_cons]
  have hv:qM (dv σ.D) (c::l)=qM (dv σ.D*10+(c.toNat-48)) l:=rfl
  rw[i1,i2,hv]
  by_cases b:c=48∧σ.D=[]
  · rw[qcS b.1 b.2]
    refine⟨?_,?_⟩
    · simp only
      rw[b.2,b.1];rfl
    · simp only[List.length_cons]
      omega
  · rw[qe9 h46 b]
    refine⟨?_,?_⟩
    · simp only
      rw[qav]
    · simp only[List.length_cons,List.length_append,List.length_nil]
      omega
theorem qlL (a b:List UInt8) (n:Nat):qM n (a++b)=qM (qM n a) b:=by unfold qM;rw[List.foldl_append]
theorem qpN (x y r:List UInt8) (hx:∀ c∈x,qf c=true) (hy:∀ c∈y,qf c=true) :
  dv (jZ (x++46::(y++r)) (x.length+1+y.length)).D=qM 0 (x++y)∧(jZ (x++46::(y++r)) (x.length+1+y.length)).dp-((jZ (x++46::(y++r)) (x.length+1+y.length)).D.length:Int) = -(y.length:Int):=by
 have e:(x++46::(y++r)).take (x.length+1+y.length)=x++46::y:=by
  rw[show x++46::(y++r)=(x++46::y)++r by simp]
  rw[show x.length+1+y.length=(x++46::y).length by simp;omega]
  exact List.take_left
 unfold jZ
 rw[e,List.foldl_append,List.foldl_cons]
 obtain⟨a1,a2⟩:=qeE x .zero hx
 obtain⟨b1,b2⟩:=qeE y ((x.foldl SS.step .zero).step 46) hy
 rw[b1,b2,qfV]
 simp only
 rw[a1,qlL]
 exact⟨rfl,by omega⟩
theorem qaV:∀ (l:List UInt8) (σ:RS),(l.foldl RS.step σ).dot=(σ.dot||l.any (fun c=>c == 46))∧(l.foldl RS.step σ).dig=(σ.dig||l.any (fun c=>c != 46))
 | [],σ=>by simp
 | c::l,σ=>by
  obtain⟨i1,i2⟩:=qaV l (σ.step c)
  rw[List.foldl_cons,i1,i2]
  by_cases a:c=46
  · subst a
    rw[qcC]
    simp
  · have e1:(c == 46)=false:=by rw[beq_eq_false_iff_ne];exact a
    have e2:(c != 46)=true:=by rw[bne_iff_ne];exact a
    have hs:(σ.step c).dot=σ.dot∧(σ.step c).dig=true:=by
     unfold RS.step
     rw[if_neg a]
     split
     · exact⟨rfl,rfl⟩
     · split
       · exact⟨rfl,rfl⟩
       · exact⟨rfl,rfl⟩
    rw[hs.1,hs.2]
    simp[e1,e2]
theorem qkV (x y r:List UInt8) (hn:QG x=true) (hy:∀ c∈y,qf c=true) (hy0:y≠[]) (hl:(x++46::(y++r)).length≤60):Scan (x++46::(y++r)) (x.length+1+y.length):=by
 obtain⟨hne,hx,h1⟩:=QK hn
 have hxp:=List.length_pos_iff.2 hne
 have hyp:=List.length_pos_iff.2 hy0
 have e:∀ k,k≤x.length+1+y.length→(x++46::(y++r)).take k=(x++46::y).take k:=fun k hk=>by
  rw[show x++46::(y++r)=(x++46::y)++r by simp]
  exact List.take_append_of_le_length (by simp;omega)
 have hlen:(x++46::(y++r)).length=x.length+1+y.length+r.length:=by simp;omega
 refine⟨by omega,hl,by omega,by omega,?_,?_,?_,?_,?_⟩
 · intro k c hk hc
   rcases Nat.lt_trichotomy k x.length with h | h | h
   · left
     rw[List.getElem?_append_left h] at hc
     exact hx c (List.mem_of_getElem? hc)
   · right
     subst h
     rw[List.getElem?_append_right zxn,Nat.sub_self] at hc
     have hc2:c=46:=(Option.some.inj hc).symm
     refine⟨hc2,?_⟩
     unfold je
     rw[(qaV _ _).1,List.take_left]
     have:x.any (fun c=>c == 46)=false:=by
      rw[List.any_eq_false]
      intro d hd
      simpa using qcw hx d hd
     rw[this];rfl
   · left
     rw[List.getElem?_append_right zxo] at hc
     rw[show k-x.length=(k-x.length-1)+1 by omega,List.getElem?_cons_succ,List.getElem?_append_left zxo] at hc
     exact hy c (List.mem_of_getElem? hc)
 · rw[List.getElem?_append_left hxp,List.getElem?_eq_getElem hxp]
   exact⟨_,rfl,hx _ (List.getElem_mem _)⟩
 · intro h0
   rw[List.getElem?_append_left hxp] at h0
   rcases h1 with h1 | h1
   · rw[List.getElem?_append_right zxo,show 1-x.length=0 by omega];rfl
   · exact absurd h0 h1
 · unfold je
   rw[(qaV _ _).1,e _ zxn,List.take_of_length_le (by simp;omega)]
   simp
 · unfold je
   rw[(qaV _ _).2,e _ zxn,List.take_of_length_le (by simp;omega)]
   obtain⟨c,x',rfl⟩:=List.exists_cons_of_ne_nil hne
   have:=qcw hx c (List.mem_cons_self ..)
   simp[this]
theorem qfi (X:ByteArray):(⟨X.data.toList.toArray⟩:ByteArray)=X:=by
 cases X;simp
theorem QE {X:ByteArray} (h:X.size=0):X=ByteArray.empty:=ByteArray.ext (Array.eq_empty_of_size_eq_zero h)
theorem Qk (s X Y:ByteArray) (b:Bool) (m:Int) (w:World) (hs:s.size≤60) (hc:Lib.cut s.data.toList [46]=(X.data.toList,Y.data.toList,b)) (hm:w.cell? ⟨2,0,none⟩=some (.int .i64 m)) :
  Calls Tryz.prog 156 #[.string s,.string ⟨#[46]⟩] w fun e w'=>e = .returned (.tuple #[.string X,.string Y,.bool b])∧∃ n,w'=w.drewN n:=by
 have HC:=Tryz.strings_Cut s ⟨#[46]⟩ m w zxo hm
 rw[show(⟨#[46]⟩:ByteArray).data.toList=[46] from rfl,hc] at HC
 simp only[qfi] at HC
 exact HC
theorem Qn (Z T:ByteArray) (w:World) (h:Z.data.toList=101::T.data.toList) :
  Calls Tryz.prog 181 #[.string Z,.string ⟨#[101]⟩] w fun e w'=>e = .returned (.tuple #[.string T,.bool true])∧w'=w:=by
 have HC:=Tryz.strings_CutPrefix Z ⟨#[101]⟩ w
 rw[show(⟨#[101]⟩:ByteArray).data.toList=[101] from rfl,h] at HC
 have e1:Lib.hasPrefix (101::T.data.toList) [101]=true:=by simp[Lib.hasPrefix,List.isPrefixOf]
 have e2:Lib.trimPrefix (101::T.data.toList) [101]=T.data.toList:=by unfold Lib.trimPrefix;rw[if_pos e1];rfl
 rw[e1,e2,qfi] at HC
 exact HC
theorem qfU (Z:ByteArray) (w:World) (h:Z.data.toList[0]?≠some 101) :
  Calls Tryz.prog 181 #[.string Z,.string ⟨#[101]⟩] w fun e w'=>e = .returned (.tuple #[.string Z,.bool false])∧w'=w:=by
 have HC:=Tryz.strings_CutPrefix Z ⟨#[101]⟩ w
 rw[show(⟨#[101]⟩:ByteArray).data.toList=[101] from rfl] at HC
 have e1:Lib.hasPrefix Z.data.toList [101]=false:=by
  cases hz:Z.data.toList with
  | nil=>rfl
  | cons c t =>
   rw[hz] at h
   have:c≠101:=fun e=>h (by rw[e];rfl)
   have hb:((101:UInt8) == c)=false:=by rw[beq_eq_false_iff_ne];exact fun e=>this e.symm
   simp[Lib.hasPrefix,List.isPrefixOf,hb]
 have e2:Lib.trimPrefix Z.data.toList [101]=Z.data.toList:=by unfold Lib.trimPrefix;rw[e1];rfl
 rw[e1,e2,qfi] at HC
 exact HC
theorem qex (w:World) (n:Nat):Below w.heap.size w (w.drewN n):=⟨rfl,rfl,rfl,Nat.le_refl _,fun _ _=>rfl⟩
theorem qix (s X Y:ByteArray) (m:Int) (w:World) (hs:s.size≤60) (hm:w.cell? ⟨2,0,none⟩=some (.int .i64 m)) (hc:Lib.cut s.data.toList [46]=(X.data.toList,Y.data.toList,false)) :
  Calls Tryz.prog 184 #[.string s] w fun e w'=>e = .returned (.bool false)∧Below w.heap.size w w':=by
 have HC:=zxi (Qk s X Y false m w hs hc hm)
 clear hm hc
 go_enter Tryz.func184,Tryz.ntmps184
 go_wp2_with fail
 refine HC.out.mono ?_
 rintro e w1 ⟨rfl,nn,rfl⟩
 exact qlK
theorem qiK (s X Y:ByteArray) (m:Int) (w:World) (hs:s.size≤60) (hm:w.cell? ⟨2,0,none⟩=some (.int .i64 m)) (hc:Lib.cut s.data.toList [46]=(X.data.toList,Y.data.toList,true)) (hX:X.size≤60) (hn:QG X.data.toList=false) :
  Calls Tryz.prog 184 #[.string s] w fun e w'=>e = .returned (.bool false)∧Below w.heap.size w w':=by
 have HC:=zxi (Qk s X Y true m w hs hc hm)
 clear hm hc
 have HN:=zxi (fun W=>qA X W zxo)
 rw[hn] at HN
 clear hn
 go_enter Tryz.func184,Tryz.ntmps184
 go_wp2_with fail
 refine HC.out.mono ?_
 rintro e w1 ⟨rfl,nn,rfl⟩
 go_wp2_with fail
 refine(HN.out _).mono ?_
 rintro e wx ⟨rfl,hxN⟩
 subst hxN
 exact qlK
theorem qhj (s X Y:ByteArray) (m:Int) (w:World) (hs:s.size≤60) (hm:w.cell? ⟨2,0,none⟩=some (.int .i64 m)) (hc:Lib.cut s.data.toList [46]=(X.data.toList,Y.data.toList,true)) (hX:X.size≤60) (hY:Y.size≤60) (hn:QG X.data.toList=true) (hd:digN Y.data.toList=0) :
  Calls Tryz.prog 184 #[.string s] w fun e w'=>e = .returned (.bool false)∧Below w.heap.size w w':=by
 have HC:=zxi (Qk s X Y true m w hs hc hm)
 clear hm hc
 have HN:=zxi (fun W=>qA X W zxo)
 rw[hn] at HN
 have HD:=zxi (fun W=>qE Y W zxo)
 rw[hd] at HD
 clear hn hd
 go_enter Tryz.func184,Tryz.ntmps184
 go_wp2_with fail
 refine HC.out.mono ?_
 rintro e w1 ⟨rfl,nn,rfl⟩
 go_wp2_with fail
 refine(HN.out _).mono ?_
 rintro e wx ⟨rfl,hxN⟩
 subst hxN
 go_wp2_with fail
 refine(HD.out _).mono ?_
 rintro e wx ⟨rfl,hxD⟩
 subst hxD
 exact qlK
theorem qoT (s X Y:ByteArray) (m:Int) (w:World) (hs:s.size≤60) (hm:w.cell? ⟨2,0,none⟩=some (.int .i64 m)) (hc:Lib.cut s.data.toList [46]=(X.data.toList,Y.data.toList,true)) (hX:X.size≤60) (hY:Y.size≤60) (hn:QG X.data.toList=true) (hd:digN Y.data.toList=Y.size) (hn0:0<Y.size) :
  Calls Tryz.prog 184 #[.string s] w fun e w'=>e = .returned (.bool true)∧Below w.heap.size w w':=by
 have HC:=zxi (Qk s X Y true m w hs hc hm)
 clear hm hc
 have HN:=zxi (fun W=>qA X W zxo)
 rw[hn] at HN
 have HD:=zxi (fun W=>qE Y W zxo)
 rw[hd] at HD
 clear hn hd
 have g0:¬ (Y.size:Int)=0:=by omega
 have g1:((Y.size:Int) == 0)=false:=by simpa using g0
 have HX:=zxi (fun W=>qfU ByteArray.empty W (fun e=>by cases e))
 go_enter Tryz.func184,Tryz.ntmps184
 go_wp2_with fail
 refine HC.out.mono ?_
 rintro e w1 ⟨rfl,nn,rfl⟩
 go_wp2_with fail
 refine(HN.out _).mono ?_
 rintro e wx ⟨rfl,hxN⟩
 subst hxN
 go_wp2_with fail
 refine(HD.out _).mono ?_
 rintro e wx ⟨rfl,hxD⟩
 subst hxD
 go_wp2_with fail
 refine(HX.out _).mono ?_
 rintro e wx ⟨rfl,hxX⟩
 subst hxX
 go_wp2_with fail
 go_ret
 refine⟨?_,qex _ _⟩
 simp
theorem qlP (s X Y:ByteArray) (m:Int) (w:World) (hs:s.size≤60) (hm:w.cell? ⟨2,0,none⟩=some (.int .i64 m)) (hc:Lib.cut s.data.toList [46]=(X.data.toList,Y.data.toList,true)) (hX:X.size≤60) (hY:Y.size≤60) (hn:QG X.data.toList=true) (n:Nat) (hd:digN Y.data.toList=n) (hn0:0<n) (hnY:n≤Y.size) (Z:ByteArray) (hZ:Y.extract n Y.size=Z) (hx:Z.data.toList[0]?≠some 101) (hne:n≠Y.size) :
  Calls Tryz.prog 184 #[.string s] w fun e w'=>e = .returned (.bool false)∧Below w.heap.size w w':=by
 have HC:=zxi (Qk s X Y true m w hs hc hm)
 clear hm hc
 have HN:=zxi (fun W=>qA X W zxo)
 rw[hn] at HN
 have HD:=zxi (fun W=>qE Y W zxo)
 rw[hd] at HD
 clear hn hd
 have g0:¬ (n:Int)=0:=by omega
 have g1:((n:Int) == 0)=false:=by simpa using g0
 have g2:(n:Int)≤(Y.size:Int):=by omega
 have g3:¬ (n:Int)=(Y.size:Int):=by omega
 have g4:((n:Int) == (Y.size:Int))=false:=by simpa using g3
 have HX:=zxi (fun W=>qfU Z W hx)
 clear hx hne
 go_enter Tryz.func184,Tryz.ntmps184
 go_wp2_with fail
 refine HC.out.mono ?_
 rintro e w1 ⟨rfl,nn,rfl⟩
 go_wp2_with fail
 refine(HN.out _).mono ?_
 rintro e wx ⟨rfl,hxN⟩
 subst hxN
 go_wp2_with fail
 refine(HD.out _).mono ?_
 rintro e wx ⟨rfl,hxD⟩
 subst hxD
 go_wp2_with fail
 refine(HX.out _).mono ?_
 rintro e wx ⟨rfl,hxX⟩
 subst hxX
 go_wp2_with fail
 go_ret
 first | exact⟨rfl,qex _ _⟩ | (refine⟨?_,qex _ _⟩;simp[g3])
theorem qeI (s X Y:ByteArray) (m:Int) (w:World) (hs:s.size≤60) (hm:w.cell? ⟨2,0,none⟩=some (.int .i64 m)) (hc:Lib.cut s.data.toList [46]=(X.data.toList,Y.data.toList,true)) (hX:X.size≤60) (hY:Y.size≤60) (hn:QG X.data.toList=true) (n:Nat) (hd:digN Y.data.toList=n) (hn0:0<n) (hnY:n≤Y.size) (Z:ByteArray) (hZ:Y.extract n Y.size=Z) (hT:Z.data.toList=[101]) :
  Calls Tryz.prog 184 #[.string s] w fun e w'=>e = .returned (.bool false)∧Below w.heap.size w w':=by
 have HC:=zxi (Qk s X Y true m w hs hc hm)
 clear hm hc
 have HN:=zxi (fun W=>qA X W zxo)
 rw[hn] at HN
 have HD:=zxi (fun W=>qE Y W zxo)
 rw[hd] at HD
 clear hn hd
 have g0:¬ (n:Int)=0:=by omega
 have g1:((n:Int) == 0)=false:=by simpa using g0
 have g2:(n:Int)≤(Y.size:Int):=by omega
 have HX:=zxi (fun W=>Qn Z ByteArray.empty W hT)
 clear hT
 exact quw
theorem qgr (s X Y:ByteArray) (m:Int) (w:World) (hs:s.size≤60) (hm:w.cell? ⟨2,0,none⟩=some (.int .i64 m)) (hc:Lib.cut s.data.toList [46]=(X.data.toList,Y.data.toList,true)) (hX:X.size≤60) (hY:Y.size≤60) (hn:QG X.data.toList=true) (n:Nat) (hd:digN Y.data.toList=n) (hn0:0<n) (hnY:n≤Y.size) (Z:ByteArray) (hZ:Y.extract n Y.size=Z) (T:ByteArray) (hT:Z.data.toList=101::T.data.toList) (hz:0<T.size) (k1:T[0]≠43) (k2:T[0]≠45) (hl:3<T.size) :
  Calls Tryz.prog 184 #[.string s] w fun e w'=>e = .returned (.bool false)∧Below w.heap.size w w':=by
 have HC:=zxi (Qk s X Y true m w hs hc hm)
 clear hm hc
 have HN:=zxi (fun W=>qA X W zxo)
 rw[hn] at HN
 have HD:=zxi (fun W=>qE Y W zxo)
 rw[hd] at HD
 clear hn hd
 have g0:¬ (n:Int)=0:=by omega
 have g1:((n:Int) == 0)=false:=by simpa using g0
 have g2:(n:Int)≤(Y.size:Int):=by omega
 have HX:=zxi (fun W=>Qn Z T W hT)
 clear hT
 obtain⟨c,hc0⟩:∃ c,T[0]=c:=⟨_,rfl⟩
 rw[hc0] at k1 k2
 have n1:¬ (c.toNat:Int)=43:=QW k1
 have n2:¬ (c.toNat:Int)=45:=QW k2
 have b1:((c.toNat:Int) == 43)=false:=by simpa using n1
 have b2:((c.toNat:Int) == 45)=false:=by simpa using n2
 clear k1 k2
 have t1:¬ (T.size:Int)=0:=by omega
 have t2:((T.size:Int) == 0)=false:=by simpa using t1
 have t3:¬ T=ByteArray.empty:=fun e=>by rw[e] at hz;exact absurd hz (Nat.not_lt_zero _)
 have t4:(0:Int)<(T.size:Int):=by omega
 have t5:¬ T.toList=[]:=by rw[ByteArray.toList_eq];intro hc;exact t3 (QE (by show T.data.toList.length=0;rw[hc];rfl))
 have t6:(!T.toList.isEmpty)=true:=by simpa using t5
 have y1:¬ (T.size:Int)≤3:=by omega
 exact quw
theorem qjT (s X Y:ByteArray) (m:Int) (w:World) (hs:s.size≤60) (hm:w.cell? ⟨2,0,none⟩=some (.int .i64 m)) (hc:Lib.cut s.data.toList [46]=(X.data.toList,Y.data.toList,true)) (hX:X.size≤60) (hY:Y.size≤60) (hn:QG X.data.toList=true) (n:Nat) (hd:digN Y.data.toList=n) (hn0:0<n) (hnY:n≤Y.size) (Z:ByteArray) (hZ:Y.extract n Y.size=Z) (T:ByteArray) (hT:Z.data.toList=101::T.data.toList) (hz:0<T.size) (k1:T[0]≠43) (k2:T[0]≠45) (hl:T.size≤3) (d:Nat) (hd2:digN T.data.toList=d) (hd3:d≠T.size) :
  Calls Tryz.prog 184 #[.string s] w fun e w'=>e = .returned (.bool false)∧Below w.heap.size w w':=by
 have HC:=zxi (Qk s X Y true m w hs hc hm)
 clear hm hc
 have HN:=zxi (fun W=>qA X W zxo)
 rw[hn] at HN
 have HD:=zxi (fun W=>qE Y W zxo)
 rw[hd] at HD
 clear hn hd
 have g0:¬ (n:Int)=0:=by omega
 have g1:((n:Int) == 0)=false:=by simpa using g0
 have g2:(n:Int)≤(Y.size:Int):=by omega
 have HX:=zxi (fun W=>Qn Z T W hT)
 clear hT
 obtain⟨c,hc0⟩:∃ c,T[0]=c:=⟨_,rfl⟩
 rw[hc0] at k1 k2
 have n1:¬ (c.toNat:Int)=43:=QW k1
 have n2:¬ (c.toNat:Int)=45:=QW k2
 have b1:((c.toNat:Int) == 43)=false:=by simpa using n1
 have b2:((c.toNat:Int) == 45)=false:=by simpa using n2
 clear k1 k2
 have t1:¬ (T.size:Int)=0:=by omega
 have t2:((T.size:Int) == 0)=false:=by simpa using t1
 have t3:¬ T=ByteArray.empty:=fun e=>by rw[e] at hz;exact absurd hz (Nat.not_lt_zero _)
 have t4:(0:Int)<(T.size:Int):=by omega
 have t5:¬ T.toList=[]:=by rw[ByteArray.toList_eq];intro hc;exact t3 (QE (by show T.data.toList.length=0;rw[hc];rfl))
 have t6:(!T.toList.isEmpty)=true:=by simpa using t5
 have y1:(T.size:Int)≤3:=by omega
 have y2:¬ (d:Int)=(T.size:Int):=by omega
 have y3:((d:Int) == (T.size:Int))=false:=by simpa using y2
 have HE:=zxi (fun W=>qE T W zxo)
 exact qrn
theorem ql3 (s X Y:ByteArray) (m:Int) (w:World) (hs:s.size≤60) (hm:w.cell? ⟨2,0,none⟩=some (.int .i64 m)) (hc:Lib.cut s.data.toList [46]=(X.data.toList,Y.data.toList,true)) (hX:X.size≤60) (hY:Y.size≤60) (hn:QG X.data.toList=true) (n:Nat) (hd:digN Y.data.toList=n) (hn0:0<n) (hnY:n≤Y.size) (Z:ByteArray) (hZ:Y.extract n Y.size=Z) (T:ByteArray) (hT:Z.data.toList=101::T.data.toList) (hz:0<T.size) (k1:T[0]≠43) (k2:T[0]≠45) (hl:T.size≤3) (hd2:digN T.data.toList=T.size) :
  Calls Tryz.prog 184 #[.string s] w fun e w'=>e = .returned (.bool true)∧Below w.heap.size w w':=by
 have HC:=zxi (Qk s X Y true m w hs hc hm)
 clear hm hc
 have HN:=zxi (fun W=>qA X W zxo)
 rw[hn] at HN
 have HD:=zxi (fun W=>qE Y W zxo)
 rw[hd] at HD
 clear hn hd
 have g0:¬ (n:Int)=0:=by omega
 have g1:((n:Int) == 0)=false:=by simpa using g0
 have g2:(n:Int)≤(Y.size:Int):=by omega
 have HX:=zxi (fun W=>Qn Z T W hT)
 clear hT
 obtain⟨c,hc0⟩:∃ c,T[0]=c:=⟨_,rfl⟩
 rw[hc0] at k1 k2
 have n1:¬ (c.toNat:Int)=43:=QW k1
 have n2:¬ (c.toNat:Int)=45:=QW k2
 have b1:((c.toNat:Int) == 43)=false:=by simpa using n1
 have b2:((c.toNat:Int) == 45)=false:=by simpa using n2
 clear k1 k2
 have t1:¬ (T.size:Int)=0:=by omega
 have t2:((T.size:Int) == 0)=false:=by simpa using t1
 have t3:¬ T=ByteArray.empty:=fun e=>by rw[e] at hz;exact absurd hz (Nat.not_lt_zero _)
 have t4:(0:Int)<(T.size:Int):=by omega
 have t5:¬ T.toList=[]:=by rw[ByteArray.toList_eq];intro hc;exact t3 (QE (by show T.data.toList.length=0;rw[hc];rfl))
 have t6:(!T.toList.isEmpty)=true:=by simpa using t5
 have y1:(T.size:Int)≤3:=by omega
 have HE:=zxi (fun W=>qE T W zxo)
 exact qsX
theorem qe0 (s X Y:ByteArray) (m:Int) (w:World) (hs:s.size≤60) (hm:w.cell? ⟨2,0,none⟩=some (.int .i64 m)) (hc:Lib.cut s.data.toList [46]=(X.data.toList,Y.data.toList,true)) (hX:X.size≤60) (hY:Y.size≤60) (hn:QG X.data.toList=true) (n:Nat) (hd:digN Y.data.toList=n) (hn0:0<n) (hnY:n≤Y.size) (Z:ByteArray) (hZ:Y.extract n Y.size=Z) (T:ByteArray) (hT:Z.data.toList=101::T.data.toList) (hz:0<T.size) (k1:T[0]=43) (E:ByteArray) (hE:T.extract 1 T.size=E) (h0:E=ByteArray.empty) :
  Calls Tryz.prog 184 #[.string s] w fun e w'=>e = .returned (.bool false)∧Below w.heap.size w w':=by
 have HC:=zxi (Qk s X Y true m w hs hc hm)
 clear hm hc
 have HN:=zxi (fun W=>qA X W zxo)
 rw[hn] at HN
 have HD:=zxi (fun W=>qE Y W zxo)
 rw[hd] at HD
 clear hn hd
 have g0:¬ (n:Int)=0:=by omega
 have g1:((n:Int) == 0)=false:=by simpa using g0
 have g2:(n:Int)≤(Y.size:Int):=by omega
 have HX:=zxi (fun W=>Qn Z T W hT)
 clear hT
 obtain⟨c,hc0⟩:∃ c,T[0]=c:=⟨_,rfl⟩
 rw[hc0] at k1
 have n1:(c.toNat:Int)=43:=by rw[k1];rfl
 have b1:((c.toNat:Int) == 43)=true:=by simpa using n1
 have n2:¬ (c.toNat:Int)=45:=by omega
 have b2:((c.toNat:Int) == 45)=false:=by simpa using n2
 exact qtC
theorem qgK (s X Y:ByteArray) (m:Int) (w:World) (hs:s.size≤60) (hm:w.cell? ⟨2,0,none⟩=some (.int .i64 m)) (hc:Lib.cut s.data.toList [46]=(X.data.toList,Y.data.toList,true)) (hX:X.size≤60) (hY:Y.size≤60) (hn:QG X.data.toList=true) (n:Nat) (hd:digN Y.data.toList=n) (hn0:0<n) (hnY:n≤Y.size) (Z:ByteArray) (hZ:Y.extract n Y.size=Z) (T:ByteArray) (hT:Z.data.toList=101::T.data.toList) (hz:0<T.size) (k1:T[0]=43) (E:ByteArray) (hE:T.extract 1 T.size=E) (hE0:0<E.size) (hl:3<E.size) :
  Calls Tryz.prog 184 #[.string s] w fun e w'=>e = .returned (.bool false)∧Below w.heap.size w w':=by
 have HC:=zxi (Qk s X Y true m w hs hc hm)
 clear hm hc
 have HN:=zxi (fun W=>qA X W zxo)
 rw[hn] at HN
 have HD:=zxi (fun W=>qE Y W zxo)
 rw[hd] at HD
 clear hn hd
 have g0:¬ (n:Int)=0:=by omega
 have g1:((n:Int) == 0)=false:=by simpa using g0
 have g2:(n:Int)≤(Y.size:Int):=by omega
 have HX:=zxi (fun W=>Qn Z T W hT)
 clear hT
 obtain⟨c,hc0⟩:∃ c,T[0]=c:=⟨_,rfl⟩
 rw[hc0] at k1
 have n1:(c.toNat:Int)=43:=by rw[k1];rfl
 have b1:((c.toNat:Int) == 43)=true:=by simpa using n1
 have n2:¬ (c.toNat:Int)=45:=by omega
 have b2:((c.toNat:Int) == 45)=false:=by simpa using n2
 exact qp5
theorem qjI (s X Y:ByteArray) (m:Int) (w:World) (hs:s.size≤60) (hm:w.cell? ⟨2,0,none⟩=some (.int .i64 m)) (hc:Lib.cut s.data.toList [46]=(X.data.toList,Y.data.toList,true)) (hX:X.size≤60) (hY:Y.size≤60) (hn:QG X.data.toList=true) (n:Nat) (hd:digN Y.data.toList=n) (hn0:0<n) (hnY:n≤Y.size) (Z:ByteArray) (hZ:Y.extract n Y.size=Z) (T:ByteArray) (hT:Z.data.toList=101::T.data.toList) (hz:0<T.size) (k1:T[0]=43) (E:ByteArray) (hE:T.extract 1 T.size=E) (hE0:0<E.size) (hl:E.size≤3) (d:Nat) (hd2:digN E.data.toList=d) (hd3:d≠E.size) :
  Calls Tryz.prog 184 #[.string s] w fun e w'=>e = .returned (.bool false)∧Below w.heap.size w w':=by
 have HC:=zxi (Qk s X Y true m w hs hc hm)
 clear hm hc
 have HN:=zxi (fun W=>qA X W zxo)
 rw[hn] at HN
 have HD:=zxi (fun W=>qE Y W zxo)
 rw[hd] at HD
 clear hn hd
 have g0:¬ (n:Int)=0:=by omega
 have g1:((n:Int) == 0)=false:=by simpa using g0
 have g2:(n:Int)≤(Y.size:Int):=by omega
 have HX:=zxi (fun W=>Qn Z T W hT)
 clear hT
 obtain⟨c,hc0⟩:∃ c,T[0]=c:=⟨_,rfl⟩
 rw[hc0] at k1
 have n1:(c.toNat:Int)=43:=by rw[k1];rfl
 have b1:((c.toNat:Int) == 43)=true:=by simpa using n1
 have n2:¬ (c.toNat:Int)=45:=by omega
 have b2:((c.toNat:Int) == 45)=false:=by simpa using n2
 exact qwN
theorem qlV (s X Y:ByteArray) (m:Int) (w:World) (hs:s.size≤60) (hm:w.cell? ⟨2,0,none⟩=some (.int .i64 m)) (hc:Lib.cut s.data.toList [46]=(X.data.toList,Y.data.toList,true)) (hX:X.size≤60) (hY:Y.size≤60) (hn:QG X.data.toList=true) (n:Nat) (hd:digN Y.data.toList=n) (hn0:0<n) (hnY:n≤Y.size) (Z:ByteArray) (hZ:Y.extract n Y.size=Z) (T:ByteArray) (hT:Z.data.toList=101::T.data.toList) (hz:0<T.size) (k1:T[0]=43) (E:ByteArray) (hE:T.extract 1 T.size=E) (hE0:0<E.size) (hl:E.size≤3) (hd2:digN E.data.toList=E.size) :
  Calls Tryz.prog 184 #[.string s] w fun e w'=>e = .returned (.bool true)∧Below w.heap.size w w':=by
 have HC:=zxi (Qk s X Y true m w hs hc hm)
 clear hm hc
 have HN:=zxi (fun W=>qA X W zxo)
 rw[hn] at HN
 have HD:=zxi (fun W=>qE Y W zxo)
 rw[hd] at HD
 clear hn hd
 have g0:¬ (n:Int)=0:=by omega
 have g1:((n:Int) == 0)=false:=by simpa using g0
 have g2:(n:Int)≤(Y.size:Int):=by omega
 have HX:=zxi (fun W=>Qn Z T W hT)
 clear hT
 obtain⟨c,hc0⟩:∃ c,T[0]=c:=⟨_,rfl⟩
 rw[hc0] at k1
 have n1:(c.toNat:Int)=43:=by rw[k1];rfl
 have b1:((c.toNat:Int) == 43)=true:=by simpa using n1
 have n2:¬ (c.toNat:Int)=45:=by omega
 have b2:((c.toNat:Int) == 45)=false:=by simpa using n2
 exact qwR
theorem qeo (s X Y:ByteArray) (m:Int) (w:World) (hs:s.size≤60) (hm:w.cell? ⟨2,0,none⟩=some (.int .i64 m)) (hc:Lib.cut s.data.toList [46]=(X.data.toList,Y.data.toList,true)) (hX:X.size≤60) (hY:Y.size≤60) (hn:QG X.data.toList=true) (n:Nat) (hd:digN Y.data.toList=n) (hn0:0<n) (hnY:n≤Y.size) (Z:ByteArray) (hZ:Y.extract n Y.size=Z) (T:ByteArray) (hT:Z.data.toList=101::T.data.toList) (hz:0<T.size) (k1:T[0]=45) (E:ByteArray) (hE:T.extract 1 T.size=E) (h0:E=ByteArray.empty) :
  Calls Tryz.prog 184 #[.string s] w fun e w'=>e = .returned (.bool false)∧Below w.heap.size w w':=by
 have HC:=zxi (Qk s X Y true m w hs hc hm)
 clear hm hc
 have HN:=zxi (fun W=>qA X W zxo)
 rw[hn] at HN
 have HD:=zxi (fun W=>qE Y W zxo)
 rw[hd] at HD
 clear hn hd
 have g0:¬ (n:Int)=0:=by omega
 have g1:((n:Int) == 0)=false:=by simpa using g0
 have g2:(n:Int)≤(Y.size:Int):=by omega
 have HX:=zxi (fun W=>Qn Z T W hT)
 clear hT
 obtain⟨c,hc0⟩:∃ c,T[0]=c:=⟨_,rfl⟩
 rw[hc0] at k1
 have n2:(c.toNat:Int)=45:=by rw[k1];rfl
 have b2:((c.toNat:Int) == 45)=true:=by simpa using n2
 have n1:¬ (c.toNat:Int)=43:=by omega
 have b1:((c.toNat:Int) == 43)=false:=by simpa using n1
 exact qtC
theorem qgs (s X Y:ByteArray) (m:Int) (w:World) (hs:s.size≤60) (hm:w.cell? ⟨2,0,none⟩=some (.int .i64 m)) (hc:Lib.cut s.data.toList [46]=(X.data.toList,Y.data.toList,true)) (hX:X.size≤60) (hY:Y.size≤60) (hn:QG X.data.toList=true) (n:Nat) (hd:digN Y.data.toList=n) (hn0:0<n) (hnY:n≤Y.size) (Z:ByteArray) (hZ:Y.extract n Y.size=Z) (T:ByteArray) (hT:Z.data.toList=101::T.data.toList) (hz:0<T.size) (k1:T[0]=45) (E:ByteArray) (hE:T.extract 1 T.size=E) (hE0:0<E.size) (hl:3<E.size) :
  Calls Tryz.prog 184 #[.string s] w fun e w'=>e = .returned (.bool false)∧Below w.heap.size w w':=by
 have HC:=zxi (Qk s X Y true m w hs hc hm)
 clear hm hc
 have HN:=zxi (fun W=>qA X W zxo)
 rw[hn] at HN
 have HD:=zxi (fun W=>qE Y W zxo)
 rw[hd] at HD
 clear hn hd
 have g0:¬ (n:Int)=0:=by omega
 have g1:((n:Int) == 0)=false:=by simpa using g0
 have g2:(n:Int)≤(Y.size:Int):=by omega
 have HX:=zxi (fun W=>Qn Z T W hT)
 clear hT
 obtain⟨c,hc0⟩:∃ c,T[0]=c:=⟨_,rfl⟩
 rw[hc0] at k1
 have n2:(c.toNat:Int)=45:=by rw[k1];rfl
 have b2:((c.toNat:Int) == 45)=true:=by simpa using n2
 have n1:¬ (c.toNat:Int)=43:=by omega
 have b1:((c.toNat:Int) == 43)=false:=by simpa using n1
 exact qp5
theorem qi4 (s X Y:ByteArray) (m:Int) (w:World) (hs:s.size≤60) (hm:w.cell? ⟨2,0,none⟩=some (.int .i64 m)) (hc:Lib.cut s.data.toList [46]=(X.data.toList,Y.data.toList,true)) (hX:X.size≤60) (hY:Y.size≤60) (hn:QG X.data.toList=true) (n:Nat) (hd:digN Y.data.toList=n) (hn0:0<n) (hnY:n≤Y.size) (Z:ByteArray) (hZ:Y.extract n Y.size=Z) (T:ByteArray) (hT:Z.data.toList=101::T.data.toList) (hz:0<T.size) (k1:T[0]=45) (E:ByteArray) (hE:T.extract 1 T.size=E) (hE0:0<E.size) (hl:E.size≤3) (d:Nat) (hd2:digN E.data.toList=d) (hd3:d≠E.size) :
  Calls Tryz.prog 184 #[.string s] w fun e w'=>e = .returned (.bool false)∧Below w.heap.size w w':=by
 have HC:=zxi (Qk s X Y true m w hs hc hm)
 clear hm hc
 have HN:=zxi (fun W=>qA X W zxo)
 rw[hn] at HN
 have HD:=zxi (fun W=>qE Y W zxo)
 rw[hd] at HD
 clear hn hd
 have g0:¬ (n:Int)=0:=by omega
 have g1:((n:Int) == 0)=false:=by simpa using g0
 have g2:(n:Int)≤(Y.size:Int):=by omega
 have HX:=zxi (fun W=>Qn Z T W hT)
 clear hT
 obtain⟨c,hc0⟩:∃ c,T[0]=c:=⟨_,rfl⟩
 rw[hc0] at k1
 have n2:(c.toNat:Int)=45:=by rw[k1];rfl
 have b2:((c.toNat:Int) == 45)=true:=by simpa using n2
 have n1:¬ (c.toNat:Int)=43:=by omega
 have b1:((c.toNat:Int) == 43)=false:=by simpa using n1
 exact qwN
theorem qlr (s X Y:ByteArray) (m:Int) (w:World) (hs:s.size≤60) (hm:w.cell? ⟨2,0,none⟩=some (.int .i64 m)) (hc:Lib.cut s.data.toList [46]=(X.data.toList,Y.data.toList,true)) (hX:X.size≤60) (hY:Y.size≤60) (hn:QG X.data.toList=true) (n:Nat) (hd:digN Y.data.toList=n) (hn0:0<n) (hnY:n≤Y.size) (Z:ByteArray) (hZ:Y.extract n Y.size=Z) (T:ByteArray) (hT:Z.data.toList=101::T.data.toList) (hz:0<T.size) (k1:T[0]=45) (E:ByteArray) (hE:T.extract 1 T.size=E) (hE0:0<E.size) (hl:E.size≤3) (hd2:digN E.data.toList=E.size) :
  Calls Tryz.prog 184 #[.string s] w fun e w'=>e = .returned (.bool true)∧Below w.heap.size w w':=by
 have HC:=zxi (Qk s X Y true m w hs hc hm)
 clear hm hc
 have HN:=zxi (fun W=>qA X W zxo)
 rw[hn] at HN
 have HD:=zxi (fun W=>qE Y W zxo)
 rw[hd] at HD
 clear hn hd
 have g0:¬ (n:Int)=0:=by omega
 have g1:((n:Int) == 0)=false:=by simpa using g0
 have g2:(n:Int)≤(Y.size:Int):=by omega
 have HX:=zxi (fun W=>Qn Z T W hT)
 clear hT
 obtain⟨c,hc0⟩:∃ c,T[0]=c:=⟨_,rfl⟩
 rw[hc0] at k1
 have n2:(c.toNat:Int)=45:=by rw[k1];rfl
 have b2:((c.toNat:Int) == 45)=true:=by simpa using n2
 have n1:¬ (c.toNat:Int)=43:=by omega
 have b1:((c.toNat:Int) == 43)=false:=by simpa using n1
 exact qwR
def mkB (l:List UInt8):ByteArray:=⟨l.toArray⟩
theorem qB (l:List UInt8):(mkB l).data.toList=l:=by simp[mkB]
theorem qH (l:List UInt8):(mkB l).size=l.length:=by show(mkB l).data.toList.length=_;rw[qB]
theorem qjt (X:ByteArray):mkB X.data.toList=X:=qfi X
theorem ql9 {X Y:ByteArray} (h:X.data.toList=Y.data.toList):X=Y:=by rw[← qjt X,h,qjt]
theorem Q8 (l:List UInt8) (n k:Nat) (h:k=(mkB l).size):(mkB l).extract n k=mkB (l.drop n):=ql9 (by rw[h,Lib.extract_to_end,qB,qB])
theorem QR {l:List UInt8} (h:0<(mkB l).size) {c:UInt8} (hc:l[0]?=some c):(mkB l)[0]=c:=by
 have h2:(mkB l).data.toList[0]?=some (mkB l)[0]:=by rw[List.getElem?_eq_getElem (by exact h)];rfl
 rw[qB,hc] at h2
 exact(Option.some.inj h2).symm
theorem qoL:mkB []=ByteArray.empty:=rfl
def qlZ (t:List UInt8) (q:Nat):Prop:=(q=0∧t[0]?≠some 43∧t[0]?≠some 45)∨(q=1∧t[0]?=some 43)∨(q=1∧t[0]?=some 45)
def qg3 (t:List UInt8) (q:Nat):Prop:=q<t.length∧t.length≤q+3∧∀ c∈t.drop q,qf c=true
def qb9 (t:List UInt8) (q:Nat):Prop:=t.length=q∨q+3<t.length∨digN (t.drop q)≠t.length-q
theorem qed (t:List UInt8) (h:t≠[]):∃ q,qlZ t q∧q≤t.length∧(qg3 t q∨qb9 t q):=by
 have hp:=List.length_pos_iff.2 h
 have main:∃ q,qlZ t q∧q≤t.length:=by
  by_cases h1:t[0]?=some 43
  · exact⟨1,.inr (.inl ⟨rfl,h1⟩),hp⟩
  · by_cases h2:t[0]?=some 45
    · exact⟨1,.inr (.inr ⟨rfl,h2⟩),hp⟩
    · exact⟨0,.inl ⟨rfl,h1,h2⟩,Nat.zero_le _⟩
 obtain⟨q,hq,hl⟩:=main
 refine⟨q,hq,hl,?_⟩
 by_cases h1:t.length=q
 · exact .inr (.inl h1)
 by_cases h2:q+3<t.length
 · exact .inr (.inr (.inl h2))
 by_cases h3:digN (t.drop q)=t.length-q
 · left
   refine⟨by omega,by omega,?_⟩
   obtain⟨u,r,e,g1,g2,g3⟩:=qap (t.drop q)
   have hr:r=[]:=by
    have:(t.drop q).length=u.length+r.length:=by rw[e];simp
    rw[List.length_drop] at this
    exact List.eq_nil_of_length_eq_zero zxo
   rw[e,hr,List.append_nil]
   exact g1
 · exact .inr (.inr (.inr h3))
inductive TailC (r:List UInt8):Prop
 | none:r=[]→TailC r
 | other:(∃ c t,r=c::t∧qf c=false∧c≠101)→TailC r
 | bare:r=[101]→TailC r
 | bad:(∃ t q,r=101::t∧t≠[]∧qlZ t q∧q≤t.length∧qb9 t q)→TailC r
 | good:(∃ t q,r=101::t∧qlZ t q∧qg3 t q)→TailC r
theorem qgf (r:List UInt8) (h:r=[]∨∃ c t,r=c::t∧qf c=false):TailC r:=by
 rcases h with h | ⟨c,t,e,hc⟩
 · exact .none h
 · by_cases h1:c=101
   · subst h1
     by_cases ht:t=[]
     · exact .bare (by rw[e,ht])
     · obtain⟨q,hq,hl,ho | hb⟩:=qed t ht
       · exact .good ⟨t,q,e,hq,ho⟩
       · exact .bad ⟨t,q,e,ht,hq,hl,hb⟩
   · exact .other ⟨c,t,e,hc,h1⟩
theorem qgx {r:List UInt8} (h:TailC r):r=[]∨∃ c t,r=c::t∧qf c=false:=by
 cases h with
 | none h=>exact .inl h
 | other h=>obtain⟨c,t,e,hc,_⟩:=h;exact .inr ⟨c,t,e,hc⟩
 | bare h=>exact .inr ⟨101,[],h,by decide⟩
 | bad h=>obtain⟨t,q,e,_⟩:=h;exact .inr ⟨101,t,e,by decide⟩
 | good h=>obtain⟨t,q,e,_⟩:=h;exact .inr ⟨101,t,e,by decide⟩
inductive LitC (L:List UInt8):Prop
 | nohead:(¬ ∃ x y,Head L x y)→LitC L
 | nofrac:(∃ x y,Head L x y∧digN y=0)→LitC L
 | parts:(∃ x u r,Head L x (u++r)∧u≠[]∧(∀ c∈u,qf c=true)∧TailC r)→LitC L
theorem qiq (L:List UInt8):LitC L:=by
 by_cases h:∃ x y,Head L x y
 · obtain⟨x,y,hh⟩:=h
   obtain⟨u,r,e,h1,h2,h3⟩:=qap y
   by_cases h0:digN y=0
   · exact .nofrac ⟨x,y,hh,h0⟩
   · refine .parts ⟨x,u,r,by rw[← e];exact hh,fun e2=>h0 (by rw[← h2,e2];rfl),h1,qgf r h3⟩
 · exact .nohead h
theorem qfp {s:ByteArray} {x y:List UInt8} (h:Head s.data.toList x y):Lib.cut s.data.toList [46]=((mkB x).data.toList,(mkB y).data.toList,true):=by rw[h.cut,qB,qB]
theorem qci {s:ByteArray} {x y:List UInt8} (h:Head s.data.toList x y) (hs:s.size≤60):(mkB x).size≤60∧(mkB y).size≤60:=by
 have:s.size=x.length+1+y.length:=by show s.data.toList.length=_;rw[h.1];simp;omega
 rw[qH,qH];omega
theorem qhy (s:ByteArray) (m:Int) (w:World) (hs:s.size≤60) (hm:w.cell? ⟨2,0,none⟩=some (.int .i64 m)) (h:¬ ∃ x y,Head s.data.toList x y) :
  Calls Tryz.prog 184 #[.string s] w fun e w'=>e = .returned (.bool false)∧Below w.heap.size w w':=by
 rcases hc:Lib.cut s.data.toList [46] with⟨x,y,b⟩
 have h1:=qgq h
 rw[hc] at h1
 have hc2:Lib.cut s.data.toList [46]=((mkB x).data.toList,(mkB y).data.toList,b):=by rw[hc,qB,qB]
 rcases h1 with h1 | ⟨h1,h2⟩
 · simp only at h1
   subst h1
   exact qix s _ _ m w hs hm hc2
 · simp only at h1 h2
   subst h1
   refine qiK s _ _ m w hs hm hc2 ?_ (by rw[qB];exact h2)
   rw[qH]
   have hx:x=(Lib.cut s.data.toList [46]).1:=by rw[hc]
   rw[hx]
   unfold Lib.cut
   split
   · simp only[List.length_take]
     have:s.data.toList.length=s.size:=rfl
     omega
   · exact hs
theorem qig (s:ByteArray) (m:Int) (w:World) (hs:s.size≤60) (hm:w.cell? ⟨2,0,none⟩=some (.int .i64 m)) {x y:List UInt8} (h:Head s.data.toList x y) (h0:digN y=0) :
  Calls Tryz.prog 184 #[.string s] w fun e w'=>e = .returned (.bool false)∧Below w.heap.size w w':=by
 obtain⟨h1,h2⟩:=qci h hs
 exact qhj s _ _ m w hs hm (qfp h) h1 h2 (by rw[qB];exact h.2) (by rw[qB];exact h0)
def qwu (s:ByteArray) (b:Bool):Prop:=∀ (m:Int) (w:World),w.cell? ⟨2,0,none⟩=some (.int .i64 m)→Calls Tryz.prog 184 #[.string s] w fun e w'=>e = .returned (.bool b)∧Below w.heap.size w w'
def qfM (r:List UInt8):Prop:=r=[]∨∃ t q,r=101::t∧qlZ t q∧qg3 t q
theorem qj6 (u r:List UInt8):(u++r).drop u.length=r:=List.drop_left
theorem qlv (s:ByteArray) (hs:s.size≤60) {x u r:List UInt8} (h:Head s.data.toList x (u++r)) (hu0:u≠[]) (hu:∀ c∈u,qf c=true) (ht:TailC r) :
  (qfM r∧qwu s true)∨((¬ qfM r)∧qwu s false):=by
 obtain⟨h1,h2⟩:=qci h hs
 have hc:=qfp h
 have hn:QG (mkB x).data.toList=true:=by rw[qB];exact h.2
 have hd:digN (mkB (u++r)).data.toList=u.length:=by rw[qB];exact qck hu (qgx ht)
 have hn0:0<u.length:=List.length_pos_iff.2 hu0
 have hnY:u.length≤(mkB (u++r)).size:=by rw[qH];simp
 have hZ:(mkB (u++r)).extract u.length (mkB (u++r)).size=mkB r:=by rw[Q8 _ _ _ rfl,qj6]
 cases ht with
 | none hr =>
  left
  refine⟨.inl hr,fun m w hm=>?_⟩
  subst hr
  have hsz:(mkB (u++[])).size=u.length:=by rw[qH];simp
  exact qoT s _ _ m w hs hm hc h1 h2 hn (by rw[hsz];exact hd) (by rw[hsz];exact hn0)
 | other hr =>
  right
  obtain⟨c,t,e,hc2,hc3⟩:=hr
  refine⟨fun hok=>?_,fun m w hm=>?_⟩
  · rcases hok with hok | ⟨t2,q,hok,_⟩
    · rw[e] at hok;cases hok
    · rw[e] at hok;exact hc3 (List.cons.inj hok).1
  · exact qlP s _ _ m w hs hm hc h1 h2 hn u.length hd hn0 hnY _ hZ (by rw[qB,e];exact fun e2=>hc3 (Option.some.inj e2)) (by rw[qH,e];simp)
 | bare hr =>
  right
  refine⟨fun hok=>?_,fun m w hm=>?_⟩
  · rcases hok with hok | ⟨t2,q,hok,_,hok2⟩
    · rw[hr] at hok;cases hok
    · rw[hr] at hok
      have:=(List.cons.inj hok).2
      rw[← this] at hok2
      exact absurd hok2.1 (Nat.not_lt_zero _)
  · exact qeI s _ _ m w hs hm hc h1 h2 hn u.length hd hn0 hnY _ hZ (by rw[qB,hr])
 | bad hr =>
  right
  obtain⟨t,q,e,ht0,hq,hql,hb⟩:=hr
  have hT:(mkB r).data.toList=101::(mkB t).data.toList:=by rw[qB,qB,e]
  have hz:0<(mkB t).size:=by rw[qH];exact List.length_pos_iff.2 ht0
  refine⟨fun hok=>?_,fun m w hm=>?_⟩
  · rcases hok with hok | ⟨t2,q2,hok,hq2,hok2⟩
    · rw[e] at hok;cases hok
    · rw[e] at hok
      have ht2:=(List.cons.inj hok).2
      subst ht2
      have hqq:q=q2:=by
       rcases hq with⟨a,b,c⟩ | ⟨a,b⟩ | ⟨a,b⟩<;>rcases hq2 with⟨a2,b2,c2⟩ | ⟨a2,b2⟩ | ⟨a2,b2⟩<;>first | omega | (exact absurd b2 b) | (exact absurd b2 c) | (exact absurd b b2) | (exact absurd b c2)
      subst hqq
      obtain⟨k1,k2,k3⟩:=hok2
      have k4:=JV _ k3
      rw[List.length_drop] at k4
      exact qls
  · rcases hq with⟨rfl,k1,k2⟩ | ⟨rfl,k1⟩ | ⟨rfl,k1⟩
    · obtain⟨c,hc0⟩:∃ c,t[0]?=some c:=⟨_,List.getElem?_eq_getElem (List.length_pos_iff.2 ht0)⟩
      have hg:=QR hz hc0
      have n1:(mkB t)[0]'hz≠43:=by rw[hg];exact fun e=>k1 (by rw[hc0,e])
      have n2:(mkB t)[0]'hz≠45:=by rw[hg];exact fun e=>k2 (by rw[hc0,e])
      by_cases hl:3<(mkB t).size
      · exact qgr s _ _ m w hs hm hc h1 h2 hn u.length hd hn0 hnY _ hZ _ hT hz n1 n2 hl
      · rw[qH] at hl
        refine qjT s _ _ m w hs hm hc h1 h2 hn u.length hd hn0 hnY _ hZ _ hT hz n1 n2 (by rw[qH];omega) _ rfl ?_
        rw[qB,qH]
        unfold qb9 at hb
        rw[List.drop_zero] at hb
        have:=List.length_pos_iff.2 ht0
        exact qls
    · have hg:=QR hz k1
      have hE:(mkB t).extract 1 (mkB t).size=mkB (t.drop 1):=Q8 _ _ _ rfl
      have hlE:(mkB (t.drop 1)).size=t.length-1:=by rw[qH,List.length_drop]
      by_cases h0:t.length=1
      · exact qe0 s _ _ m w hs hm hc h1 h2 hn u.length hd hn0 hnY _ hZ _ hT hz hg _ hE (QE zxo)
      · by_cases hl:3<(mkB (t.drop 1)).size
        · exact qgK s _ _ m w hs hm hc h1 h2 hn u.length hd hn0 hnY _ hZ _ hT hz hg _ hE zxo hl
        · refine qjI s _ _ m w hs hm hc h1 h2 hn u.length hd hn0 hnY _ hZ _ hT hz hg _ hE zxo zxo _ rfl ?_
          rw[qB]
          unfold qb9 at hb
          exact qls
    · have hg:=QR hz k1
      have hE:(mkB t).extract 1 (mkB t).size=mkB (t.drop 1):=Q8 _ _ _ rfl
      have hlE:(mkB (t.drop 1)).size=t.length-1:=by rw[qH,List.length_drop]
      by_cases h0:t.length=1
      · exact qeo s _ _ m w hs hm hc h1 h2 hn u.length hd hn0 hnY _ hZ _ hT hz hg _ hE (QE zxo)
      · by_cases hl:3<(mkB (t.drop 1)).size
        · exact qgs s _ _ m w hs hm hc h1 h2 hn u.length hd hn0 hnY _ hZ _ hT hz hg _ hE zxo hl
        · refine qi4 s _ _ m w hs hm hc h1 h2 hn u.length hd hn0 hnY _ hZ _ hT hz hg _ hE zxo zxo _ rfl ?_
          rw[qB]
          unfold qb9 at hb
          exact qls
 | good hr =>
  left
  obtain⟨t,q,e,hq,hl1,hl2,hdg⟩:=hr
  refine⟨.inr ⟨t,q,e,hq,hl1,hl2,hdg⟩,fun m w hm=>?_⟩
  have hT:(mkB r).data.toList=101::(mkB t).data.toList:=by rw[qB,qB,e]
  have hz:0<(mkB t).size:=by rw[qH];omega
  have k4:=JV _ hdg
  rw[List.length_drop] at k4
  rcases hq with⟨rfl,k1,k2⟩ | ⟨rfl,k1⟩ | ⟨rfl,k1⟩
  · obtain⟨c,hc0⟩:∃ c,t[0]?=some c:=⟨_,List.getElem?_eq_getElem zxo⟩
    have hg:=QR hz hc0
    have n1:(mkB t)[0]'hz≠43:=by rw[hg];exact fun e=>k1 (by rw[hc0,e])
    have n2:(mkB t)[0]'hz≠45:=by rw[hg];exact fun e=>k2 (by rw[hc0,e])
    refine ql3 s _ _ m w hs hm hc h1 h2 hn u.length hd hn0 hnY _ hZ _ hT hz n1 n2 (by rw[qH];omega) ?_
    rw[qB,qH]
    rw[List.drop_zero] at k4
    exact k4
  · have hg:=QR hz k1
    have hE:(mkB t).extract 1 (mkB t).size=mkB (t.drop 1):=Q8 _ _ _ rfl
    have hlE:(mkB (t.drop 1)).size=t.length-1:=by rw[qH,List.length_drop]
    exact qlV s _ _ m w hs hm hc h1 h2 hn u.length hd hn0 hnY _ hZ _ hT hz hg _ hE zxo zxo (by rw[qB,hlE];exact k4)
  · have hg:=QR hz k1
    have hE:(mkB t).extract 1 (mkB t).size=mkB (t.drop 1):=Q8 _ _ _ rfl
    have hlE:(mkB (t.drop 1)).size=t.length-1:=by rw[qH,List.length_drop]
    exact qlr s _ _ m w hs hm hc h1 h2 hn u.length hd hn0 hnY _ hZ _ hT hz hg _ hE zxo zxo (by rw[qB,hlE];exact k4)
end Go.Proofs.YtacdfjlncfidgaaGreatDoor
