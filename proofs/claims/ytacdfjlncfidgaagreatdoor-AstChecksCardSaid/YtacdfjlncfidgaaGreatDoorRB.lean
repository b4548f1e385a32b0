/- A part of what the claim leans on. -/
import Derived.Test.YtacdfjlncfidgaaGreatDoorQS
import Derived.Test.YtacdfjlncfidgaaGreatDoorRA
namespace Go.Proofs.YtacdfjlncfidgaaGreatDoor
open Go.RowKit
set_option linter.unusedVariables false
set_option linter.unusedSimpArgs false
set_option maxHeartbeats 6400000
set_option maxRecDepth 100000
theorem qfw {p:UInt8→Bool} {L:BL} {k:Nat}:atB p (L.drop k) 0=atB p L k:=by unfold atB;rw[List.getElem?_drop,Nat.add_zero]
theorem qwT (t:ByteArray) (c:UInt8) (w:World):Calls Tryz.prog 155 #[.string t,.string ⟨#[c]⟩] w fun e w'=>e = .returned (.bool (atB (· == c) t.data.toList 0))∧w'=w:=by
 refine(Tryz.strings_HasPrefix t ⟨#[c]⟩ w).mono ?_
 rintro e w' ⟨rfl,rfl⟩
 refine⟨qi ?_,rfl⟩
 unfold Lib.hasPrefix atB
 show[c].isPrefixOf t.data.toList=_
 cases t.data.toList with
 | nil=>rfl
 | cons x l =>
  simp only[List.isPrefixOf,Bool.and_true]
  show(c == x)=(x == c)
  exact Bool.eq_iff_iff.2 (by rw[beq_iff_eq,beq_iff_eq];exact⟨Eq.symm,Eq.symm⟩)
theorem qnx (t:ByteArray) (w:World) (h:atB (· == 101) t.data.toList 0=false):Calls Tryz.prog 181 #[.string t,.string ⟨#[101]⟩] w fun e w'=>(∃ v:ByteArray,e = .returned (.tuple #[.string v,.bool false]))∧w'=w:=by
 refine(Tryz.strings_CutPrefix t ⟨#[101]⟩ w).mono ?_
 rintro e w' ⟨rfl,rfl⟩
 have e1:Lib.hasPrefix t.data.toList (⟨#[101]⟩:ByteArray).data.toList=false:=by
  unfold Lib.hasPrefix
  show[101].isPrefixOf t.data.toList=_
  unfold atB at h
  cases hl:t.data.toList with
  | nil=>rfl
  | cons x l =>
   rw[hl] at h
   simp at h
   simp[List.isPrefixOf]
   exact fun e=>h e.symm
 rw[e1]
 exact⟨⟨_,rfl⟩,rfl⟩
theorem qlF (t:ByteArray) (p:BL) (w:World) (h:t.data.toList=101::p):Calls Tryz.prog 181 #[.string t,.string ⟨#[101]⟩] w fun e w'=>e = .returned (.tuple #[.string (qn p),.bool true])∧w'=w:=by
 refine(Tryz.strings_CutPrefix t ⟨#[101]⟩ w).mono ?_
 rintro e w' ⟨rfl,rfl⟩
 refine⟨?_,rfl⟩
 rw[h]
 rfl
theorem ju (s:ByteArray) (k:Nat):(s.extract k s.size).data.toList=s.data.toList.drop k:=Lib.extract_to_end s k
theorem Q7 (s:ByteArray) (k:Nat):(s.extract k s.size).size=s.size-k:=by
 show(s.extract k s.size).data.toList.length=_
 rw[ju,List.length_drop];rfl
theorem qZ (L:BL) (k:Nat):digN (L.drop k)≤L.length-k:=by have:=qam (L.drop k);rwa [List.length_drop] at this
theorem QB {L:BL} {k:Nat} {c:UInt8} (h:L[k]?=some c):L.drop k=c::L.drop (k+1):=by
 have hlt:k<L.length:=(List.getElem?_eq_some_iff.1 h).1
 rw[List.drop_eq_getElem_cons hlt]
 have:=(List.getElem?_eq_some_iff.1 h).2
 rw[this]
theorem qa0 {a b c d:Int} (h:a=b) (h2:c=d):Ending.returned (.tuple #[.int .i64 a,.int .i64 c]) = .returned (.tuple #[.int .i64 b,.int .i64 d]):=by rw[h,h2]
theorem qe2 (s:ByteArray) (w:World) (hs:s.size≤1000000) :
  Calls Tryz.prog 171 #[.string s] w fun e w'=>e = .returned (.tuple #[.int .i64 (Qm s.data.toList).1,.int .i64 (Qm s.data.toList).2])∧Below w.heap.size w w':=by
 have hsz:s.data.toList.length=s.size:=rfl
 have HD1:=zxi (qay s w zxo)
 obtain⟨n1,hn1⟩:∃ n,digN s.data.toList=n:=⟨_,rfl⟩
 have hle1:n1≤s.size:=by rw[← hn1];exact qam _
 rw[hn1] at HD1
 by_cases h1:n1=0
 · subst h1
   have HV:=zxi (show Qm s.data.toList=(3,0) by unfold Qm;rw[hn1];simp)
   clear hn1
   go_enter Tryz.func171,Tryz.ntmps171
   go_wp2_with (first | (go_at_call 180;refine HD1.out.mono ?_;rintro e w1 ⟨rfl,hb⟩))
   go_ret2
   exact⟨by rw[HV.out];rfl,hb⟩
 have h1p:((n1:Int) == 0)=false:=beq_eq_false_iff_ne.2 zxo
 have hle1':(n1:Int)≤(s.size:Int):=by omega
 have HP:=zxi (fun w=>qwT (s.extract n1 s.size) 46 w)
 rw[ju,qfw] at HP
 by_cases h2:s.data.toList[n1]?≠some 46
 · have HV:=zxi (show Qm s.data.toList=(3,n1) by unfold Qm;rw[hn1];exact if_pos (.inr (.inl h2)))
   have hat:atB (· == 46) s.data.toList n1=false:=by
    unfold atB
    cases hg:s.data.toList[n1]? with
    | none=>rfl
    | some c=>rw[hg] at h2;simpa using h2
   rw[hat] at HP
   clear hn1 h2 hat
   go_enter Tryz.func171,Tryz.ntmps171
   go_wp2_with (first | (go_at_call 180;refine HD1.out.mono ?_;rintro e w1 ⟨rfl,hb⟩) | (go_at_call 155;refine(HP.out _).mono ?_;rintro e w1 ⟨rfl,rfl⟩))
   go_ret2
   exact⟨by rw[HV.out];rfl,hb⟩
 have h2:=Classical.not_not.1 h2
 have hlt1:n1+1≤s.size:=by have:=(List.getElem?_eq_some_iff.1 h2).1;omega
 have hlt1':(n1:Int)+1≤(s.size:Int):=by omega
 have hat:atB (· == 46) s.data.toList n1=true:=by unfold atB;rw[h2];rfl
 rw[hat] at HP
 have HD2:=zxi (fun w=>qay (s.extract (n1+1) s.size) w (by rw[Q7];omega))
 rw[ju] at HD2
 obtain⟨n2,hn2⟩:∃ n,digN (s.data.toList.drop (n1+1))=n:=⟨_,rfl⟩
 have hle2:n1+1+n2≤s.size:=by have:=qZ s.data.toList (n1+1);rw[hn2,hsz] at this;omega
 rw[hn2] at HD2
 have hV0:Qm s.data.toList=if n2=0 then (3,n1) else (4,n1+1+n2+qcv (s.data.toList.drop (n1+1+n2))):=by
  unfold Qm;rw[hn1,hn2]
  by_cases h:n2=0
  · simp[h]
  · simp[h,h1,h2]
 by_cases h3:n2=0
 · subst h3
   have HV:=zxi hV0
   clear hn1 hn2 h2 hat hV0
   go_enter Tryz.func171,Tryz.ntmps171
   go_wp2_with fail
   refine HD1.out.mono ?_
   rintro e w1 ⟨rfl,hb1⟩
   go_wp2_with fail
   refine(HP.out _).mono ?_
   rintro e w2 ⟨rfl,rfl⟩
   go_wp2_with fail
   refine(HD2.out _).mono ?_
   rintro e w3 ⟨rfl,hb3⟩
   go_wp2_with fail
   go_ret2
   exact⟨by rw[HV.out];rfl,qa hb1 hb3⟩
 rw[if_neg h3] at hV0
 have h3p:((n2:Int) == 0)=false:=beq_eq_false_iff_ne.2 zxo
 obtain⟨m,hm⟩:∃ m,n1+1+n2=m:=⟨_,rfl⟩
 rw[hm] at hV0
 have hmi:(n1:Int)+(1+(n2:Int))=(m:Int):=by omega
 have hml:m≤s.size:=by omega
 have hml':(m:Int)≤(s.size:Int):=by omega
 have hE:atB (· == 101) (s.extract m s.size).data.toList 0=atB (· == 101) s.data.toList m:=by rw[ju,qfw]
 by_cases h4:s.data.toList[m]?≠some 101
 · have HV:=zxi (show Qm s.data.toList=(4,m) by
    rw[hV0]
    have:qcv (s.data.toList.drop m)=0:=by
     unfold qcv
     split
     · rfl
     · rename_i c p hd
       have hg:s.data.toList[m]?=some c:=by
        have:=congrArg (fun l=>l[0]?) hd
        simpa using this
       rw[if_neg]
       intro hc
       exact h4 (by rw[hg];congr 1;exact UInt8.toNat_inj.1 hc)
    rw[this];rfl)
   have HE:=zxi (fun w=>qnx (s.extract m s.size) w (by
    rw[hE];unfold atB
    cases hg:s.data.toList[m]? with
    | none=>rfl
    | some c=>rw[hg] at h4;simpa using h4))
   clear hn1 hn2 h2 hat hV0 h4 hE hm
   go_enter Tryz.func171,Tryz.ntmps171
   go_wp2_with fail
   refine HD1.out.mono ?_
   rintro e w1 ⟨rfl,hb1⟩
   go_wp2_with fail
   refine(HP.out _).mono ?_
   rintro e w2 ⟨rfl,rfl⟩
   go_wp2_with fail
   refine(HD2.out _).mono ?_
   rintro e w3 ⟨rfl,hb3⟩
   go_wp2_with fail
   refine(HD2.out _).mono ?_
   rintro e w4 ⟨rfl,hb4⟩
   go_wp2_with fail
   refine(HE.out _).mono ?_
   rintro e w5 ⟨⟨v,rfl⟩,rfl⟩
   go_wp2_with fail
   go_ret2
   exact⟨by rw[HV.out];rfl,qa (qa hb1 hb3) hb4⟩
 have h4:=Classical.not_not.1 h4
 have hdr:=QB h4
 obtain⟨p,hp⟩:∃ p,s.data.toList.drop (m+1)=p:=⟨_,rfl⟩
 rw[hp] at hdr
 have hltm:m+1≤s.size:=by have:=(List.getElem?_eq_some_iff.1 h4).1;omega
 have HE:=zxi (fun w=>qlF (s.extract m s.size) p w (by rw[ju,hdr]))
 have hpl:p.length+(m+1)=s.size:=by rw[← hp,List.length_drop];omega
 obtain⟨X,hX⟩:∃ X,qn p=X:=⟨_,rfl⟩
 have hXl:X.data.toList=p:=by rw[← hX,qj]
 have hXs:X.size=p.length:=by show X.data.toList.length=_;rw[hXl]
 rw[hX] at HE
 obtain⟨d,hd⟩:∃ d,digN (p.drop (sgN p))=d:=⟨_,rfl⟩
 have hsg:sgN p≤1∧sgN p≤p.length:=by
  exact qrg
 have hdle:d+sgN p≤p.length:=by have:=qZ p (sgN p);omega
 have hV1:Qm s.data.toList=(4,m+(if d=0 then 0 else 1+sgN p+d)):=by
  rw[hV0,hdr]
  unfold qcv
  simp only[show((101:UInt8).toNat=101)=True from by decide,if_true,hd]
 clear hn1 hn2 h2 hat hV0 h4 hE hm hdr hp hX
 cases p with
 | nil =>
  have hsgv:sgN ([]:BL)=0:=rfl
  have HM:=zxi (fun w=>qay X w zxo)
  rw[hXl] at HM
  have hz:X.size=0:=by rw[hXs];rfl
  have t1:=Qu hz
  have t3:X.toList.isEmpty=true:=by rw[t1];rfl
  rw[hsgv] at hV1
  have HV:=zxi (show Qm s.data.toList=(4,m) by rw[hV1,← hd];rfl)
  rw[show digN ([]:BL)=0 from rfl] at HM
  clear hV1 hd hXl hsgv hsg hdle
  exact qvR
 | cons c q =>
  have hpos:0<X.size:=by rw[hXs];simp
  have t1:=Jm hpos
  have t3:X.toList.isEmpty=false:=by simpa using t1
  obtain⟨c',r',hcr,hX0⟩:=qau hpos
  rw[hXl] at hcr
  simp only[List.cons.injEq] at hcr
  obtain⟨rfl,rfl⟩:=hcr
  have hql:q.length+1+(m+1)=s.size:=by simpa using hpl
  have hXq:X.size=q.length+1:=by rw[hXs];simp
  by_cases c1:c.toNat=43
  · have hsgv:sgN (c::q)=1:=by simp[sgN,c1]
    have b1:((c.toNat:Int) == 43)=true:=beq_iff_eq.2 zxo
    have HM:=zxi (fun w=>qay (X.extract 1 X.size) w (by rw[Q7];omega))
    rw[ju,hXl] at HM
    have hRs:(X.extract 1 X.size).size=q.length:=by rw[Q7];omega
    rw[hXq] at HM hRs
    rw[hsgv] at hd
    rw[hd] at HM
    clear hsg
    rw[hsgv] at hdle hV1
    have HSZ:=zxi hXs
    by_cases hd0:d=0
    · subst hd0
      have HV:=zxi (show Qm s.data.toList=(4,m) from hV1)
      clear hV1 hd hXl hsgv c1
      exact qvR
    · have hdp:(0:Int)<(d:Int):=by omega
      rw[if_neg hd0] at hV1
      have HV:=zxi hV1
      clear hV1 hd hXl hsgv c1
      exact qwl
  · have b1:((c.toNat:Int) == 43)=false:=beq_eq_false_iff_ne.2 zxo
    by_cases c2:c.toNat=45
    · have hsgv:sgN (c::q)=1:=by simp[sgN,c2]
      have b2:((c.toNat:Int) == 45)=true:=beq_iff_eq.2 zxo
      have HM:=zxi (fun w=>qay (X.extract 1 X.size) w (by rw[Q7];omega))
      rw[ju,hXl] at HM
      have hRs:(X.extract 1 X.size).size=q.length:=by rw[Q7];omega
      rw[hXq] at HM hRs
      rw[hsgv] at hd
      exact qrF
    · have hsgv:sgN (c::q)=0:=by simp[sgN,c1,c2]
      have b2:((c.toNat:Int) == 45)=false:=beq_eq_false_iff_ne.2 zxo
      have HM:=zxi (fun w=>qay X w zxo)
      rw[hXl] at HM
      have hRs:X.size=q.length+1:=hXq
      rw[hsgv] at hd
      rw[List.drop_zero] at hd
      exact qrF
theorem qe6:(Tryz.prog.info? 192).map (·.size)=some 2:=by kernel_rfl
theorem qkk:liesAt Tryz.prog Tryz.prog.depth 192 (2/Tryz.prog.cellsOf 192) 0 192 1=true:=by kernel_rfl
theorem qbQ (b:Nat) (w:World) (h0:w.cell? ⟨b,0,none⟩=some (.pointer (some ⟨b,0,none⟩))) :
  Calls Tryz.prog 195 #[.pointer (some ⟨b,0,none⟩)] w fun e w'=>e = .returned (.tuple #[])∧w'=w:=by
 obtain⟨j,hj,hjs⟩:=Option.map_eq_some_iff.1 qe6
 go_enter Tryz.func195,Tryz.ntmps195
 go_wp2
 rw[Lib.run_neq_ptr_same w _ Tryz.underlying190 hj]
 go_wp2
 go_end0
 exact⟨rfl,rfl⟩
theorem qbl (b:Nat) (w:World) (h0:w.cell? ⟨b,0,none⟩=some (.pointer none)) (hsh:w.shape? b=some (192,2)) (hfz:w.frozen? ⟨b,0,none⟩=false) :
  Calls Tryz.prog 195 #[.pointer (some ⟨b,0,none⟩)] w fun e w'=>e = .returned (.tuple #[])∧w'=w.setCell ⟨b,0,none⟩ (.pointer (some ⟨b,0,none⟩)):=by
 obtain⟨j,hj,hjs⟩:=Option.map_eq_some_iff.1 qe6
 go_enter Tryz.func195,Tryz.ntmps195
 go_wp2
 rw[Lib.run_to_unsafe w ⟨b,0,none⟩ Tryz.underlying190 Tryz.underlying208 hj (by rw[hjs];decide) hsh (Nat.zero_lt_succ 1)]
 simp only[Result.andThen]
 rw[Oper.upon_value]
 go_wp2
 rw[run_callFunc_extern Tryz.func203 (by kernel_rfl) (by kernel_rfl) (by kernel_rfl) (e:=Extern.AbiNoEscape.same) (by kernel_rfl)]
 rw[Lib.run_noEscape]
 simp only[Result.andThen]
 rw[Oper.upon_value]
 go_wp2
 rw[Lib.run_from_unsafe w ⟨b,0,none⟩ Tryz.underlying208 Tryz.underlying190 hj hsh qkk]
 simp only[Result.andThen]
 rw[Oper.upon_value]
 go_wp2
 go_end0
 exact⟨rfl,rfl⟩
theorem qcF (B b:Nat) (bs:List Value) (w:World) (h:Lib.IsBuilder 192 5 B b bs w) :
  Calls Tryz.prog 195 #[.pointer (some ⟨b,0,none⟩)] w fun e w'=>e = .returned (.tuple #[])∧(Lib.BuilderAt 192 5 B b (.pointer (some ⟨b,0,none⟩)) bs w'∧Below B w w'):=by
 rcases h with h | h
 · refine(qbl b w h.cell0 h.shape h.frozen0).mono ?_
   rintro e w' ⟨rfl,rfl⟩
   exact⟨rfl,h.used _,(Below.refl B w).setCell (p:=⟨b,0,none⟩) h.1 _⟩
 · refine(qbQ b w h.cell0).mono ?_
   rintro e w' ⟨rfl,rfl⟩
   exact⟨rfl,h,Below.refl B _⟩
theorem jg {i:Option TypeInfo} {z:Value} {s b:Nat} (h:i.map (fun i=>(i.zero,i.size,i.bytes))=some (some z,s,b)):∃ j,i=some j∧j.zero=some z∧j.size=s∧j.bytes=b:=by
 exact qsD
def bc (x:UInt8):List Value:=[.int .u8 x.toNat]
theorem qa7 (x:UInt8):(bc x).length=1:=rfl
theorem qbF (x:UInt8):∀ u∈bc x,u.oneCell'=true:=by intro u hu;simp[bc] at hu;subst hu;rfl
theorem qat (l:List UInt8):l.flatMap bc=Lib.byteCells l:=by
 induction l with
 | nil=>rfl
 | cons x l ih=>rw[List.flatMap_cons,ih];rfl
theorem Qx {w:World} {B:Nat} {v:Value} {l:List UInt8} (h:Own bc 1 5 w B v l):∃ ao n cap,v = .slice ao n cap:=by
 exact qrD
theorem qhJ {w1 w2:World} {b:Nat} {p v:Value} (h:w1.heap[b]?=some (.cells #[p,v] 192 (0,0))) (hlt:b<w1.heap.size) (hne:v.ownBlock≠some b) (hg:w1.grownBy w2 v.ownBlock) :
  w2.heap[b]?=some (.cells #[p,v] 192 (0,0))∧w2.cell? ⟨b,0,none⟩=some p∧w2.cell? ⟨b,1,none⟩=some v∧w2.frozen? ⟨b,1,none⟩=false:=by
 have hb2:w2.heap[b]?=some (.cells #[p,v] 192 (0,0)):=by
  rw[hg.block b hlt (fun e=>hne e.symm)];exact h
 exact⟨hb2,by rw[Lib.cell_of_heap hb2];rfl,by rw[Lib.cell_of_heap hb2];rfl,Lib.frozen_of_heap hb2 1⟩
theorem J6 (B b:Nat) (l:List UInt8) (x:UInt8) (w:World) (h:Lib.IsBuilder 192 5 B b (Lib.byteCells l) w) (hlen:l.length≤1000000) (hBw:B≤w.heap.size) :
  Calls Tryz.prog 188 #[.pointer (some ⟨b,0,none⟩),.int .u8 (x.toNat:Int)] w fun e w'=>e = .returned .nilIface∧(Lib.IsBuilder 192 5 B b (Lib.byteCells (l++[x])) w'∧Below B w w'):=by
 obtain⟨i0,hi,hz0,hz1,hz2⟩:=jg (show(Tryz.prog.info? 5).map (fun i=>(i.zero,i.size,i.bytes))=some (some (.int .u8 0),1,1) by kernel_rfl)
 go_enter Tryz.func188,Tryz.ntmps188
 go_wp2_with (go_at_call 195;refine(qcF B b _ _ h).mono ?_)
 rintro e w1 ⟨rfl,h1,hb1⟩
 obtain⟨hB,v,hbk,hown,hne⟩:=h1
 have c0:w1.cell? ⟨b,0,none⟩=some (.pointer (some ⟨b,0,none⟩)):=by rw[Lib.cell_of_heap hbk];rfl
 have c1:w1.cell? ⟨b,1,none⟩=some v:=by rw[Lib.cell_of_heap hbk];rfl
 have hown1:Own bc 1 5 w1 B v l:=by
  unfold Own;rw[qat];simpa[Lib.byteCells_length] using hown
 have HO:=zxi hown1
 have HBK:=zxi hbk
 have HB1:=zxi hb1
 have hlt:b<w1.heap.size:=by
  rcases Nat.lt_or_ge b w1.heap.size with h' | h'
  · exact h'
  · simp[Array.getElem?_eq_none h'] at hbk
 have hw1:B≤w1.heap.size:=Nat.le_trans hBw hb1.size
 clear hown1 hbk hb1 hown
 go_wp2_with (at_builtin;go_must (refine qo (cs:=bc) rfl _ _ 140 rfl 5 i0 _ 1 Tryz.underlying140 hi hz0 hz1 hz2 rfl zxd qa7 qbF _ B _ v l x _ (by simp[bc]) (by rfl) (by rfl) (by rfl) HO.out (by unfold maxLen;omega) zxo hw1 ?_);intro v' w2 hown' hgrow hat;obtain⟨ao,n',cap,rfl⟩:=Qx hown';obtain⟨hb2,d0,d1,f1⟩:=qhJ HBK.out hlt hne hgrow;have HO2:=zxi hown';have HG:=zxi hgrow;have HB2:=zxi hb2;clear hown' hgrow hat hb2)
 go_ret
 refine⟨rfl,.inr ?_,?_⟩
 · refine Lib.BuilderAt.put (T:=192) (e:=5) hB HB2.out (bs':=Lib.byteCells (l++[x])) ?_ zxd
   have:=HO2.out
   unfold Own at this;rw[qat] at this
   simpa[Lib.byteCells_length] using this
 · exact(HB1.out.grown HG.out hw1 (fun k hk=>(HO.out.lt k hk).1)).setCell (p:=⟨b,1,none⟩) hB _
def hexesB:ByteArray:=⟨#[48,49,50,51,52,53,54,55,56,57,97,98,99,100,101,102]⟩
def qhf (x:UInt8):Int:=match qaR x with | some n=>n | none => -1
theorem qly:∀ n:Fin 256,Lib.indexByte hexesB.data.toList (UInt8.ofNat n)=qhf (UInt8.ofNat n):=by decide +kernel
theorem qoz (x:UInt8):Lib.indexByte hexesB.data.toList x=qhf x:=by
 have:=qly ⟨x.toNat,UInt8.toNat_lt x⟩
 simpa using this
theorem qnG (x:UInt8) (w:World):Calls Tryz.prog 101 #[.string hexesB,.int .u8 (x.toNat:Int)] w fun e w'=>e = .returned (.int .i64 (qhf x))∧w'=w:=by
 refine(Tryz.strings_IndexByte hexesB (x.toNat:Int) w).mono ?_
 rintro e w' ⟨rfl,rfl⟩
 exact⟨by rw[qjw,qoz],rfl⟩
theorem qfS (x:UInt8) (w:World):Calls Tryz.prog 101 #[.string ⟨#[48,49,50,51,52,53,54,55,56,57,97,98,99,100,101,102]⟩,.int .u8 (x.toNat:Int)] w fun e w'=>e = .returned (.int .i64 (qhf x))∧w'=w:=qnG x w
theorem qaD {x:UInt8} {n:Nat} (h:qaR x=some n):n<16:=by
 unfold qaR at h
 split at h
 · rename_i hd;simp[qf] at hd;cases h;omega
 · split at h
   · cases h;omega
   · cases h
theorem Ql {s:ByteArray} {i:Nat} (h:i<s.size):s.data.toList[i]?=some s[i]:=by
 have hl:s.data.toList.length=s.size:=rfl
 rw[List.getElem?_eq_getElem (by rw[hl];exact h)];rfl
def qmB (o:Option (UInt8×Nat)):Value:=match o with | some (x,n)=>.tuple #[.int .u8 (x.toNat:Int),.int .i64 (n:Nat)] | none=>.tuple #[.int .u8 0,.int .i64 0]
theorem qui:∀ h l:Fin 16,bits BinOp.or IntKind.i64 (((h:Nat):Int)*16) ((l:Nat):Int)%256=((UInt8.ofNat ((h:Nat)*16+(l:Nat))).toNat:Int):=by decide +kernel
theorem qqV {h l:Nat} (hh:h<16) (hl:l<16):Ending.returned (.tuple #[.int .u8 (bits BinOp.or IntKind.i64 ((h:Int)*16) (l:Int)%256),.int .i64 3]) = .returned (qmB (some (UInt8.ofNat (h*16+l),3))):=by
 have:=qui ⟨h,hh⟩ ⟨l,hl⟩
 simp only at this
 rw[this];rfl
theorem qlh (s:ByteArray) (w:World) (hs:s.size≤1000000) :
  Calls Tryz.prog 187 #[.string s] w fun e w'=>e = .returned (qmB (Ja s.data.toList))∧∃ q,w'=w.drewN q:=by
 by_cases h0:0<s.size
 · obtain⟨c,r,hd,hc⟩:=qau h0
   have t1:=Jm h0
   have t3:s.toList.isEmpty=false:=by simpa using t1
   by_cases c1:c.toNat=110
   · have b1:((c.toNat:Int) == 110)=true:=beq_iff_eq.2 zxo
     have HV:=zxi (show Ja s.data.toList=some (10,1) by rw[hd];simp[Ja,c1])
     clear hd c1
     exact qeN
   have b1:((c.toNat:Int) == 110)=false:=beq_eq_false_iff_ne.2 zxo
   by_cases c2:c.toNat=116
   · have b2:((c.toNat:Int) == 116)=true:=beq_iff_eq.2 zxo
     have HV:=zxi (show Ja s.data.toList=some (9,1) by rw[hd];simp[Ja,c1,c2])
     clear hd c1 c2
     exact qeN
   have b2:((c.toNat:Int) == 116)=false:=beq_eq_false_iff_ne.2 zxo
   by_cases c3:c.toNat=34
   · have b3:((c.toNat:Int) == 34)=true:=beq_iff_eq.2 zxo
     have HV:=zxi (show Ja s.data.toList=some (c,1) by rw[hd];simp[Ja,c1,c2,c3])
     clear hd c1 c2 c3
     exact qeN
   have b3:((c.toNat:Int) == 34)=false:=beq_eq_false_iff_ne.2 zxo
   by_cases c4:c.toNat=92
   · have b4:((c.toNat:Int) == 92)=true:=beq_iff_eq.2 zxo
     have HV:=zxi (show Ja s.data.toList=some (c,1) by rw[hd];simp[Ja,c1,c2,c4])
     clear hd c1 c2 c3 c4
     exact qeN
   have b4:((c.toNat:Int) == 92)=false:=beq_eq_false_iff_ne.2 zxo
   by_cases c5:c.toNat=120
   · have b5:((c.toNat:Int) == 120)=true:=beq_iff_eq.2 zxo
     by_cases h2:2<s.size
     · have h2':(2:Int)<(s.size:Int):=by omega
       have h1':(1:Int)<(s.size:Int):=by omega
       have g1:=Ql (s:=s) (i:=1) zxo
       have g2:=Ql (s:=s) (i:=2) h2
       obtain⟨x,hx⟩:∃ x,s[1]'zxo=x:=⟨_,rfl⟩
       obtain⟨y,hy⟩:∃ y,s[2]'h2=y:=⟨_,rfl⟩
       rw[hx] at g1
       rw[hy] at g2
       have hr:∃ r',r=x::y::r':=by
        rw[hd] at g1 g2
        match r,g1,g2 with
        | a::b::r',g1,g2=>simp at g1 g2;subst g1 g2;exact⟨r',rfl⟩
       obtain⟨r',rfl⟩:=hr
       have hv:Ja s.data.toList=match qaR x,qaR y with | some h,some l=>some (UInt8.ofNat (h*16+l),3) | _,_=>none:=by
        rw[hd];unfold Ja;simp only[c5];rfl
       cases hhx:qaR x with
       | none =>
        have hix:qhf x = -1:=by unfold qhf;rw[hhx]
        rw[hhx] at hv
        have HV:=zxi (show Ja s.data.toList=none from hv)
        clear hv hd g1 g2 c1 c2 c3 c4 c5 hhx
        exact qsQ
       | some h =>
        have hix:qhf x=(h:Int):=by unfold qhf;rw[hhx]
        have hh:=qaD hhx
        have hh0:(0:Int)≤(h:Int):=by omega
        rw[hhx] at hv
        cases hhy:qaR y with
        | none =>
         have hiy:qhf y = -1:=by unfold qhf;rw[hhy]
         rw[hhy] at hv
         have HV:=zxi (show Ja s.data.toList=none from hv)
         clear hv hd g1 g2 c1 c2 c3 c4 c5 hhx hhy
         exact qsQ
        | some l =>
         have hiy:qhf y=(l:Int):=by unfold qhf;rw[hhy]
         have hl:=qaD hhy
         have hl0:(0:Int)≤(l:Int):=by omega
         rw[hhy] at hv
         have HV:=zxi (show Ja s.data.toList=some (UInt8.ofNat (h*16+l),3) from hv)
         clear hv hd g1 g2 c1 c2 c3 c4 c5 hhx hhy
         go_enter Tryz.func187,Tryz.ntmps187
         go_wp2_with fail
         go_quiet ((go_at_call 101;exact Calls.quiet_of_same (qfS _ _)))
         go_wp2_with fail
         go_ret2
         exact⟨by rw[HV.out];exact qqV hh hl,_,rfl⟩
     · have h2':¬ (2:Int)<(s.size:Int):=by omega
       have HV:=zxi (show Ja s.data.toList=none by
        have hrl:r.length≤1:=by
         have:s.data.toList.length=s.size:=rfl
         rw[hd] at this;simp at this;omega
        rw[hd];unfold Ja;simp only[c1,c2,c3,c4,c5,if_false,if_true,or_self]
        match r,hrl with
        | [],_=>rfl
        | [a],_=>rfl)
       clear hd c1 c2 c3 c4 c5
       exact qeN
   · have b5:((c.toNat:Int) == 120)=false:=beq_eq_false_iff_ne.2 zxo
     have HV:=zxi (show Ja s.data.toList=none by rw[hd];simp[Ja,c1,c2,c3,c4,c5])
     clear hd c1 c2 c3 c4 c5
     exact qeN
 · have hz:s.size=0:=by omega
   have t1:=Qu hz
   have t3:s.toList.isEmpty=true:=by rw[t1];rfl
   have hd:s.data.toList=[]:=List.eq_nil_of_length_eq_zero hz
   have HV:=zxi (show Ja s.data.toList=none by rw[hd];rfl)
   clear hd
   exact qeN
def qjS (o:Option (BL×Nat)):Value:=match o with | some (v,n)=>.tuple #[.string (qn v),.int .i64 (n:Nat)] | none=>.tuple #[.string ⟨#[]⟩,.int .i64 0]
theorem Qw {L:BL} {i:Nat} {b:BL} (h:L.length≤i):quotAt L i b=none:=by
 unfold quotAt;rw[dif_neg zxo]
theorem qdP {s:ByteArray} {i:Nat} {b:BL} {c:UInt8} (h:i<s.size) (hc:s[i]=c):quotAt s.data.toList i b =
  if c.toNat=34 then some (b,i+1) else if c.toNat<32∨c.toNat=127 then none else if c.toNat=92 then
   (match Ja (s.data.toList.drop (i+1)) with | none=>none | some (x,n)=>quotAt s.data.toList (i+1+n) (b++[x]))
  else quotAt s.data.toList (i+1) (b++[c]):=by
 have hl:s.data.toList.length=s.size:=rfl
 have hg:s.data.toList[i]'(by rw[hl];exact h)=c:=hc
 rw[quotAt,dif_pos (by rw[hl];exact h),hg]
 cases Ja (List.drop (i+1) s.data.toList)<;>rfl
theorem qip (s:ByteArray) (w:World) (hs:s.size≤1000000) :
  Calls Tryz.prog 174 #[.string s] w fun e w'=>e = .returned (qjS (Qr s.data.toList))∧Below w.heap.size w w':=by
 have hsz:s.data.toList.length=s.size:=rfl
 by_cases h0:0<s.size
 · obtain⟨c0,r0,hd,hc0⟩:=qau h0
   have t1:=Jm h0
   have t3:s.toList.isEmpty=false:=by simpa using t1
   by_cases q0:c0.toNat=34
   · have b0:((c0.toNat:Int) == 34)=true:=beq_iff_eq.2 zxo
     have hv0:Qr s.data.toList=quotAt s.data.toList 1 []:=by
      have:Qr (c0::r0)=quotAt (c0::r0) 1 []:=if_pos q0
      rw[hd];exact this
     have HV0:=zxi hv0
     have HSZ:=zxi hsz
     have HI0:=zxi (Lib.fresh_isBuilder 192 5 w)
     have HB0:=zxi ((Below.refl w.heap.size w).alloc zxn (.cells #[.pointer none,.slice none 0 0] 192))
     clear hv0 hsz hd
     go_enter Tryz.func174,Tryz.ntmps174
     go_wp2_with fail
     go_loopw [5] (fun iv wr=>∃ (i:Nat) (b:BL),i≤s.size∧iv = .int .i64 i∧b.length≤i∧Qr s.data.toList=quotAt s.data.toList i b∧Lib.IsBuilder 192 5 w.heap.size w.heap.size (Lib.byteCells b) wr∧Below w.heap.size w wr) (fun iv _=>s.size-(intOf iv).toNat)
     case atStart=>exact⟨1,[],by omega,rfl,by simp,HV0.out,HI0.out,HB0.out⟩
     case round =>
      obtain⟨i,b,hi,rfl,hbl,hv,hib,hbe⟩:=hrel
      have HIB:=zxi hib
      have HBE:=zxi hbe
      clear hib hbe HI0 HB0
      by_cases hlt:i<s.size
      · obtain⟨c,hc⟩:∃ c,s[i]=c:=⟨_,rfl⟩
        have hlt2:(i:Int)<(s.size:Int):=by omega
        rw[qdP hlt hc] at hv
        by_cases c1:c.toNat=34
        · have b1:((c.toNat:Int) == 34)=true:=beq_iff_eq.2 zxo
          rw[if_pos c1] at hv
          have HV:=zxi hv
          have HS:=zxi (Tryz.Builder_String_any w.heap.size w.heap.size b wr HIB.out HBE.out.size)
          clear hv c1
          go_wp2_with (first | (go_at_call 186;refine HS.out.mono ?_;rintro e w' ⟨rfl,hb⟩))
          go_ret2
          exact⟨by rw[HV.out];exact rfl,HBE.out.trans hb⟩
        have b1:((c.toNat:Int) == 34)=false:=beq_eq_false_iff_ne.2 zxo
        rw[if_neg c1] at hv
        by_cases c2:c.toNat<32
        · exact qrY
        have b2:¬ (c.toNat:Int)<32:=by omega
        by_cases c3:c.toNat=127
        · exact qqM
        have b3:((c.toNat:Int) == 127)=false:=beq_eq_false_iff_ne.2 zxo
        rw[if_neg zxo] at hv
        by_cases c4:c.toNat=92
        · have b4:((c.toNat:Int) == 92)=true:=beq_iff_eq.2 zxo
          rw[if_pos c4] at hv
          have hle:(i:Int)+1≤(s.size:Int):=by omega
          have he:=qlh (s.extract (i+1) s.size) wr (by rw[Q7];omega)
          rw[ju] at he
          cases hesc:Ja (s.data.toList.drop (i+1)) with
          | none =>
           rw[hesc] at hv he
           have HE:=zxi (show Calls Tryz.prog 187 #[.string (s.extract (i+1) s.size)] wr fun e w'=>e = .returned (.tuple #[.int .u8 0,.int .i64 0])∧∃ q,w'=wr.drewN q from he)
           have HV:=zxi (show Qr s.data.toList=none from hv)
           clear hv he hesc c1 c2 c3 c4
           go_wp2_with (first | (go_at_call 187;refine HE.out.mono ?_;rintro e w' ⟨rfl,q,rfl⟩))
           go_ret2
           exact⟨by rw[HV.out];rfl,qQ HBE.out q⟩
          | some xn =>
           obtain⟨x,n⟩:=xn
           rw[hesc] at hv he
           obtain⟨hn0,hn3,hnl⟩:=qfc hesc
           have hn1:i+1+n≤s.size:=by rw[List.length_drop,HSZ.out] at hnl;omega
           have hnb:((n:Int) == 0)=false:=beq_eq_false_iff_ne.2 zxo
           have HE:=zxi (show Calls Tryz.prog 187 #[.string (s.extract (i+1) s.size)] wr fun e w'=>e = .returned (.tuple #[.int .u8 (x.toNat:Int),.int .i64 (n:Nat)])∧∃ q,w'=wr.drewN q from he)
           have HV:=zxi (show Qr s.data.toList=quotAt s.data.toList (i+1+n) (b++[x]) from hv)
           have HW:=zxi (fun q=>J6 w.heap.size w.heap.size b x (wr.drewN q) HIB.out zxo HBE.out.size)
           clear hv he hesc c1 c2 c3 c4 hnl
           go_wp2_with (first | (go_at_call 187;refine HE.out.mono ?_;rintro e w' ⟨rfl,q,rfl⟩) | (go_at_call 188;refine(HW.out _).mono ?_;rintro e w' ⟨rfl,hib2,hb2⟩))
           go_roundw
           case rel=>exact⟨i+1+n,b++[x],hn1,by go_num,by simp;omega,HV.out,hib2,(qQ HBE.out q).trans hb2⟩
           case measure=>simp only[intOf];omega
        · have b4:((c.toNat:Int) == 92)=false:=beq_eq_false_iff_ne.2 zxo
          rw[if_neg c4] at hv
          have HV:=zxi hv
          have HW:=zxi (J6 w.heap.size w.heap.size b c wr HIB.out zxo HBE.out.size)
          clear hv c1 c2 c3 c4
          go_wp2_with (first | (go_at_call 188;refine HW.out.mono ?_;rintro e w' ⟨rfl,hib2,hb2⟩))
          go_roundw
          case rel=>exact⟨i+1,b++[c],by omega,by go_num,by simp;omega,HV.out,hib2,HBE.out.trans hb2⟩
          case measure=>simp only[intOf];omega
      · have HV:=zxi (hv.trans (Qw (by rw[HSZ.out];omega)))
        have hlt2:¬ (i:Int)<(s.size:Int):=by omega
        clear hv
        exact qeO
   · have b0:((c0.toNat:Int) == 34)=false:=beq_eq_false_iff_ne.2 zxo
     have HV:=zxi (show Qr s.data.toList=none by
      have:Qr (c0::r0)=none:=if_neg q0
      rw[hd];exact this)
     clear hd hsz q0
     exact qsW
 · have hz:s.size=0:=by omega
   have t1:=Qu hz
   have t3:s.toList.isEmpty=true:=by rw[t1];rfl
   have hd:s.data.toList=[]:=List.eq_nil_of_length_eq_zero hz
   have HV:=zxi (show Qr s.data.toList=none by rw[hd];rfl)
   clear hd hsz
   exact qsW
def marksB:ByteArray:=⟨#[61,61,32,33,61,32,60,61,32,62,61,32,38,38,32,124,124,32,58,61,32,43,32,45,32,42,32,47,32,37,32,60,32,62,32,33,32,61,32,40,32,41,32,123,32,125,32,44,32,46,32,58]⟩
def marksL:List BL:=marks2++marks1
theorem qdu:Lib.fields marksB.data.toList=marksL:=by decide +kernel
abbrev SpTab (w:World):Prop:=Lib.TabIs Tryz.prog w "strings.asciiSpace" .u8 Lib.asciiSpaceTab
theorem SpTab.below {w w':World} (h:SpTab w) (hb:Below w.heap.size w w'):SpTab w':=by
 unfold SpTab Lib.TabIs World.var? at h ⊢
 cases hg:Tryz.prog.globalNamed "strings.asciiSpace" with
 | none=>rw[hg] at h;cases h
 | some g =>
  rw[hg] at h
  simp only[Option.bind_some] at h ⊢
  have hlt:g<w.heap.size:=by
   rcases Nat.lt_or_ge g w.heap.size with h1 | h1
   · exact h1
   · rw[Array.getElem?_eq_none h1] at h;cases h
  rw[hb.block g hlt];exact h
theorem qgb (w:World) (h:SpTab w):Calls Tryz.prog 109 #[.string marksB] w fun e w'=>e = .returned (.slice (some ⟨w.heap.size,0,none⟩) 23 23)∧w'=w.alloc (.cells (marksL.map fun l=>Value.string ⟨l.toArray⟩).toArray 9):=by
 have:=Tryz.strings_Fields marksB w zxd (qcA marksB (by decide +kernel)) h
 rw[qdu] at this
 exact this
theorem qab:∀ m∈marksL,m.length=1∨m.length=2:=by decide
theorem J4:marksL.filter (fun m=>m.length == 2)=marks2:=by decide
theorem qbz:marksL.filter (fun m=>m.length == 1)=marks1:=by decide
theorem qoB {L:BL} (m:BL) (hm:m∈marksL) (hl:m.length=2) (hp:m.isPrefixOf L=true):jX L=2:=by
 unfold jX
 rw[if_pos]
 rw[List.any_eq_true]
 exact⟨m,by rw[← J4,List.mem_filter];exact⟨hm,by simp[hl]⟩,hp⟩
theorem qn1 {L:BL} (m:BL) (hm:m∈marksL) (hl:m.length=1) (hp:m.isPrefixOf L=true) (h2:∀ m∈marksL,m.length=2→m.isPrefixOf L=false):jX L=1:=by
 unfold jX
 rw[if_neg,if_pos]
 · rw[List.any_eq_true]
   exact⟨m,by rw[← qbz,List.mem_filter];exact⟨hm,by simp[hl]⟩,hp⟩
 · rw[List.any_eq_true]
   rintro⟨x,hx,hp2⟩
   rw[← J4,List.mem_filter] at hx
   have:=h2 x hx.1 (by simpa using hx.2)
   rw[this] at hp2;cases hp2
theorem qoN {L:BL} (h:∀ m∈marksL,m.isPrefixOf L=false):jX L=0:=by
 unfold jX
 rw[if_neg,if_neg]
 · rw[List.any_eq_true]
   rintro⟨x,hx,hp2⟩
   rw[← qbz,List.mem_filter] at hx
   rw[h x hx.1] at hp2;cases hp2
 · rw[List.any_eq_true]
   rintro⟨x,hx,hp2⟩
   rw[← J4,List.mem_filter] at hx
   rw[h x hx.1] at hp2;cases hp2
theorem qv3 (s:ByteArray) (w:World) (hT:SpTab w) :
  Calls Tryz.prog 175 #[.string s] w fun e w'=>e = .returned (.int .i64 (jX s.data.toList))∧Below w.heap.size w w':=by
 have HF:=zxi (fun w h=>qgb w h)
 unfold marksB at HF
 have HT:=zxi hT
 clear hT
 go_enter Tryz.func175,Tryz.ntmps175
 go_wp2_with fail
 go_step3
 go_wp2_with fail
 go_step3
 go_wp2_with fail
 go_loopw [3] (fun nv wr=>∃ k:Nat,k≤2∧nv = .int .i64 k∧(∀ m∈marksL,k<m.length→m.isPrefixOf s.data.toList=false)∧Below w.heap.size w wr) (fun nv _=>(intOf nv).toNat)
 case atStart=>exact⟨2,Nat.le_refl _,rfl,fun m hm h=>by rcases qab m hm with h1 | h1<;>omega,Below.refl _ _⟩
 case round =>
  obtain⟨k,hk,rfl,hno,hb⟩:=hrel
  have HNO:=zxi hno
  have HB:=zxi hb
  clear hno hb
  by_cases hk0:k=0
  · subst hk0
    have HV:=zxi (qoN (fun m hm=>HNO.out m hm (by rcases qab m hm with h1 | h1<;>omega)))
    go_wp2_with fail
    first | go_ret | (rw[Exit.noGoto_ret];go_ret)
    exact⟨jB (by rw[HV.out]),HB.out⟩
  · have hkp:(0:Int)<(k:Int):=by omega
    have hf:=HF.out wr (HT.out.below HB.out)
    have HFW:=zxi hf
    have HC:=zxi (Js marksL wr)
    have HBW:=zxi (HB.out.alloc HB.out.size (.cells (marksL.map fun l=>Value.string ⟨l.toArray⟩).toArray 9))
    clear hf
    go_wp2_with (first | (go_at_call 109;refine HFW.out.mono ?_;rintro e w1 ⟨rfl,rfl⟩))
    generalize hWW:wr.alloc (.cells (marksL.map fun l=>Value.string ⟨l.toArray⟩).toArray 9)=W at HC HBW ⊢
    clear hWW
    go_loopw [12] (fun jv wq=>∃ j:Nat,j≤23∧jv = .int .i64 j∧(∀ j' m,marksL[j']?=some m→j'<j→m.length=k→m.isPrefixOf s.data.toList=false)∧wq=W) (fun jv _=>23-(intOf jv).toNat)
    case atStart=>exact⟨0,by omega,rfl,fun j' m _ h=>absurd h (Nat.not_lt_zero _),rfl⟩
    case round =>
     obtain⟨j,hj,rfl,hin,rfl⟩:=hrel
     have HIN:=zxi hin
     clear hin
     by_cases hlt:j<23
     · have hlt2:(j:Int)<23:=by omega
       obtain⟨m,hm⟩:∃ m,marksL[j]?=some m:=⟨marksL[j]'(by show j<23;exact hlt),List.getElem?_eq_getElem _⟩
       have hc:=HC.out j m hm
       rw[Nat.zero_add] at hc
       have hys:(qn m).size=m.length:=by show(qn m).data.toList.length=_;rw[qj]
       have hpf:=fun w=>Tryz.strings_HasPrefix s (qn m) w
       rw[qj] at hpf
       unfold Lib.hasPrefix at hpf
       have hmm:=List.mem_of_getElem? hm
       have HM:=zxi hm
       have HMM:=zxi hmm
       generalize qn m=y at hc hys hpf
       by_cases hl:m.length=k
       · have b1:((y.size:Int) == (k:Int))=true:=beq_iff_eq.2 zxo
         cases hp:m.isPrefixOf s.data.toList with
         | true =>
          rw[hp] at hpf
          have HP:=zxi hpf
          have HV:=zxi (show jX s.data.toList=k by
           rcases Nat.lt_or_ge 1 k with h1 | h1
           · obtain rfl:k=2:=by omega
             exact qoB m hmm hl hp
           · obtain rfl:k=1:=by omega
             exact qn1 m hmm hl hp (fun x hx hx2=>HNO.out x hx zxo))
          clear hpf hm hmm hp hl hys
          go_wp2_with (first | (go_at_call 155;refine(HP.out _).mono ?_;rintro e w1 ⟨rfl,rfl⟩))
          first | go_ret | (rw[Exit.noGoto_ret];go_ret)
          exact⟨jB (by rw[HV.out]),HBW.out⟩
         | false =>
          rw[hp] at hpf
          have HP:=zxi hpf
          have HPP:=zxi hp
          clear hpf hm hmm hp hl hys
          go_wp2_with (first | (go_at_call 155;refine(HP.out _).mono ?_;rintro e w1 ⟨rfl,rfl⟩))
          go_roundw
          case rel=>exact⟨j+1,by omega,by go_num,fun j' x hx hj' hxl=>by
           rcases Nat.lt_or_ge j' j with h1 | h1
           · exact HIN.out j' x hx h1 hxl
           · obtain rfl:j'=j:=by omega
             have e:=HM.out
             rw[hx] at e
             cases e
             exact HPP.out,trivial⟩
          case measure=>simp only[intOf];omega
       · have b1:((y.size:Int) == (k:Int))=false:=beq_eq_false_iff_ne.2 zxo
         have HL:=zxi hl
         clear hpf hm hmm hl hys
         go_wp2_with fail
         go_roundw
         case rel=>exact⟨j+1,by omega,by go_num,fun j' x hx hj' hxl=>by
          rcases Nat.lt_or_ge j' j with h1 | h1
          · exact HIN.out j' x hx h1 hxl
          · obtain rfl:j'=j:=by omega
            have e:=HM.out
            rw[hx] at e
            cases e
            exact absurd hxl HL.out,trivial⟩
         case measure=>simp only[intOf];omega
     · have hj23:j=23:=by omega
       subst hj23
       go_wp2_with fail
       go_roundw
       case rel=>exact⟨k-1,by omega,by go_num,fun m hm hl=>by
        rcases Nat.lt_or_ge k m.length with h1 | h1
        · exact HNO.out m hm h1
        · obtain⟨j',hj',e⟩:=List.getElem_of_mem hm
          exact HIN.out j' m (by rw[List.getElem?_eq_getElem hj',e]) hj' zxo,HBW.out⟩
       case measure=>simp only[intOf];omega
end Go.Proofs.YtacdfjlncfidgaaGreatDoor
