/- A part of what the claim leans on. -/
import Derived.Test.YtacdfjlncfidgaaGreatDoorQS
import Derived.Test.YtacdfjlncfidgaaGreatDoorRH
import Derived.Test.YtacdfjlncfidgaaGreatDoorRE
import Derived.Test.YtacdfjlncfidgaaGreatDoorRF
namespace Go.Proofs.YtacdfjlncfidgaaGreatDoor
open Go.RowKit
set_option linter.unusedVariables false
set_option linter.unusedSimpArgs false
set_option maxRecDepth 100000
set_option maxHeartbeats 12800000
theorem Jb {L:BL} {j:Nat} {x:UInt8} (h:atB (· == x) L j=true):L.drop j=x::L.drop (j+1):=QB (is_some.1 h)
theorem qwa {L:BL} {j:Nat} (h:atB (· == 110) L j=true):Ja (L.drop j)=some (10,1):=by rw[Jb h];rfl
theorem qvE {L:BL} {j:Nat} (h:atB (· == 116) L j=true):Ja (L.drop j)=some (9,1):=by rw[Jb h];rfl
theorem qvj {L:BL} {j:Nat} (h:atB (· == 34) L j=true):Ja (L.drop j)=some (34,1):=by rw[Jb h];rfl
theorem qv7 {L:BL} {j:Nat} (h:atB (· == 92) L j=true):Ja (L.drop j)=some (92,1):=by rw[Jb h];rfl
theorem qqF {L:BL} {j:Nat} (h1:atB (· == 110) L j=false) (h2:atB (· == 116) L j=false) (h3:atB (· == 34) L j=false) (h4:atB (· == 92) L j=false) (h5:atB (· == 120) L j=false):Ja (L.drop j)=none:=by
 cases hd:L.drop j with
 | nil=>rfl
 | cons c r =>
  have hc:L[j]?=some c:=by have:=congrArg (fun l=>l[0]?) hd;simpa using this
  have key:∀ x:UInt8,atB (· == x) L j=false→c.toNat≠x.toNat:=fun x hx e=>by
   have e2:c=x:=UInt8.toNat_inj.1 e
   subst e2
   rw[is_some.2 hc] at hx;cases hx
  have k1:c.toNat≠110:=key _ h1
  have k2:c.toNat≠116:=key _ h2
  have k3:c.toNat≠34:=key _ h3
  have k4:c.toNat≠92:=key _ h4
  have k5:c.toNat≠120:=key _ h5
  have e:Ja (c::r)=if c.toNat=110 then some (10,1) else if c.toNat=116 then some (9,1) else if c.toNat=34∨c.toNat=92 then some (c,1)
   else if c.toNat=120 then (match r with
    | a::b::_=>(match qaR a,qaR b with
     | some h,some l=>some (UInt8.ofNat (h*16+l),3)
     | _,_=>none)
    | _=>none)
   else none:=rfl
  rw[e,if_neg k1,if_neg k2,if_neg (fun q=>q.elim k3 k4),if_neg k5]
theorem qdH {L:BL} {i:Nat} (h:L[i]?=none):qeU L i = -1:=by unfold qeU;rw[h]
theorem qbk {L:BL} {i:Nat} {c:UInt8} (h:L[i]?=some c):qeU L i=(match qaR c with | some v=>(v:Int) | none => -1):=by first | (unfold qeU;rw[h];done) | (unfold qeU;rw[h];rfl)
theorem qvl {L:BL} {j:Nat} (h:atB (· == 120) L j=true):(∃ a b:Nat,qeU L (j+1)=a∧qeU L (j+2)=b∧a<16∧b<16∧Ja (L.drop j)=some (UInt8.ofNat (a*16+b),3)) ∨
  (¬ 0≤qeU L (j+1)∧Ja (L.drop j)=none)∨∃ a:Nat,qeU L (j+1)=a∧a<16∧¬ 0≤qeU L (j+2)∧Ja (L.drop j)=none:=by
 rw[Jb h]
 have e:Ja (120::L.drop (j+1))=(match L.drop (j+1) with
       | a::b::_=>(match qaR a,qaR b with
        | some h,some l=>some (UInt8.ofNat (h*16+l),3)
        | _,_=>none)
       | _=>none):=rfl
 rw[e]
 cases hd:L.drop (j+1) with
 | nil =>
  have:L[j+1]?=none:=by rw[List.getElem?_eq_none_iff];exact List.drop_eq_nil_iff.1 hd
  exact .inr (.inl ⟨by rw[qdH this];decide,rfl⟩)
 | cons x r =>
  have h1:L[j+1]?=some x:=by have:=congrArg (fun l=>l[0]?) hd;simpa using this
  cases r with
  | nil =>
   have h2:L[j+2]?=none:=by have:=congrArg (fun l=>l[1]?) hd;simpa using this
   rw[qdH h2,qbk h1]
   cases hx:qaR x with
   | none=>exact .inr (.inl ⟨by decide,rfl⟩)
   | some v=>exact .inr (.inr ⟨v,rfl,qaD hx,by decide,rfl⟩)
  | cons y r =>
   have h2:L[j+2]?=some y:=by have:=congrArg (fun l=>l[1]?) hd;simpa using this
   rw[qbk h2,qbk h1]
   simp only
   cases hx:qaR x with
   | none=>exact .inr (.inl ⟨by decide,rfl⟩)
   | some v =>
    cases hy:qaR y with
    | none=>exact .inr (.inr ⟨v,rfl,qaD hx,by decide,rfl⟩)
    | some u=>exact .inl ⟨v,u,rfl,rfl,qaD hx,qaD hy,rfl⟩
theorem qgO {w:World} {B:Nat} {v:Value} {bs:BL} (h:Own bc 1 5 w B v bs):(convert 140 9 v).run Tryz.prog w = .ok (.string (qn bs)) w:=by
 rcases h.2 with⟨e,h0⟩ | ⟨g,cap',cur,e,_,hg,hc,_,hs,ht⟩
 · have hb:bs=[]:=List.eq_nil_of_length_eq_zero h0
   subst hb;subst e
   exact run_convert_bytes_nil w 140 5 Tryz.underlying140 Tryz.underlying5 0 0 9 Tryz.underlying9
 · subst e
   refine run_convert_bytes_back (P:=Tryz.prog) w 140 9 5 ⟨g,0,none⟩ cap' bs Tryz.underlying140 Tryz.underlying5 Tryz.underlying9 fun j hj=>?_
   rw[Addr.add_lit,Nat.zero_add,cell_of_row _ _ _ _ _ _ hg,← Array.getElem?_toList]
   have:(cur.toList.take (bs.length*1))[j]?=cur.toList[j]?:=by rw[List.getElem?_take,if_pos zxo]
   rw[← this,ht,qat,Lib.byteCells,List.getElem?_map,List.getElem?_eq_getElem hj]
   rfl
theorem qoG (s:ByteArray) (i:Nat) (w:World) (hs:s.size≤999990) (hi:i<s.size) :
  Calls Tryz.prog 131 #[.string s,.int .i64 (i:Int)] w fun e w'=>e = .returned (qjS (quotAt s.data.toList (i+1) []))∧Below w.heap.size w w':=by
 obtain⟨i0,hi5,hz0,hz1,hz2⟩:=jg (show(Tryz.prog.info? 5).map (fun i=>(i.zero,i.size,i.bytes))=some (some (.int .u8 0),1,1) by kernel_rfl)
 have hsz:s.data.toList.length=s.size:=rfl
 have HSZ:=zxi hsz
 have HI:=zxi (fun k x (hk:k≤1000000) w=>ris s k x w zxo zxo)
 have HH:=zxi (fun k (hk:k≤1000000) w=>qxn s k w zxo hk)
 have HSB:=zxi (Below.refl w.heap.size w)
 clear hsz
 go_enter Tryz.func131,Tryz.ntmps131
 go_wp2_with fail
 go_loopw [1,6] (fun iv bv wr=>∃ (k:Nat) (b:BL),k≤s.size∧iv = .int .i64 k∧b.length≤k∧quotAt s.data.toList (i+1) []=quotAt s.data.toList k b∧Own bc 1 5 wr w.heap.size bv b∧Below w.heap.size w wr) (fun iv _ _=>s.size-(intOf iv).toNat)
 case atStart=>exact⟨i+1,[],by omega,by go_num,by simp,rfl,Own.nil_,HSB.out⟩
 case round =>
  obtain⟨k,b,hk,rfl,hbl,hv,hib,hbe⟩:=hrel
  have HIB:=zxi hib
  have HBE:=zxi hbe
  clear hib hbe
  by_cases hlt:k<s.size
  case neg =>
   have HV:=zxi (hv.trans (Qw (by rw[HSZ.out];omega)))
   have hlt2:¬ (k:Int)<(s.size:Int):=by omega
   clear hv
   exact qeO
  obtain⟨c,hc⟩:∃ c,s[k]=c:=⟨_,rfl⟩
  have hlt2:(k:Int)<(s.size:Int):=by omega
  rw[qdP hlt hc] at hv
  by_cases c1:c.toNat=34
  · have b1:((c.toNat:Int) == 34)=true:=beq_iff_eq.2 zxo
    rw[if_pos c1] at hv
    have HV:=zxi hv
    have hcv:=qgO HIB.out
    clear hv c1
    go_wp2_with fail
    go_ret2
    exact⟨by rw[HV.out];exact rfl,HBE.out⟩
  have b1:((c.toNat:Int) == 34)=false:=beq_eq_false_iff_ne.2 zxo
  rw[if_neg c1] at hv
  by_cases c2:c.toNat<32
  · exact qrY
  have b2:¬ (c.toNat:Int)<32:=by omega
  by_cases c3:c.toNat=127
  · exact qqM
  have b3:((c.toNat:Int) == 127)=false:=beq_eq_false_iff_ne.2 zxo
  rw[if_neg zxo] at hv
  by_cases c4:c.toNat=92
  case neg =>
   have b4:((c.toNat:Int) == 92)=false:=beq_eq_false_iff_ne.2 zxo
   rw[if_neg c4] at hv
   have HV:=zxi hv
   clear hv c1 c2 c3 c4
   go_wp2_with (at_builtin;go_must (refine qo (cs:=bc) rfl _ _ 140 rfl 5 i0 _ 1 Tryz.underlying140 hi5 hz0 hz1 hz2 rfl zxd qa7 qbF wr w.heap.size wr.heap.size _ b c _ (by simp[bc]) (by rfl) (by rfl) rfl HIB.out (by unfold maxLen;omega) zxo HBE.out.size ?_);intro v' w2 hown' hgrow hat;obtain⟨ao,n',cap,rfl⟩:=Qx hown';have HO2:=zxi hown';have HB2:=zxi (qI HBE.out HIB.out HBE.out.size hgrow);clear hown' hgrow hat)
   go_roundw
   case rel=>exact⟨k+1,b++[c],by omega,by go_num,by simp;omega,HV.out,HO2.out,HB2.out⟩
   case measure=>simp only[intOf];omega
  have b4:((c.toNat:Int) == 92)=true:=beq_iff_eq.2 zxo
  rw[if_pos c4] at hv
  have H1:=zxi (HI.out (k+1) 110 zxo wr)
  have H2:=zxi (HI.out (k+1) 116 zxo wr)
  have H3:=zxi (HI.out (k+1) 34 zxo wr)
  have H4:=zxi (HI.out (k+1) 92 zxo wr)
  have H5:=zxi (HI.out (k+1) 120 zxo wr)
  have G1:=zxi (HH.out (k+2) zxo wr)
  have G2:=zxi (HH.out (k+3) zxo wr)
  clear c1 c2 c3 c4
  cases q1:atB (· == 110) s.data.toList (k+1) with
  | true =>
   rw[q1] at H1
   have hes:=qwa q1
   have hlt3:=qbc q1
   rw[HSZ.out] at hlt3
   rw[hes] at hv
   have HV:=zxi (show quotAt s.data.toList (i+1) []=quotAt s.data.toList (k+1+1) (b++[10]) from hv)
   clear hv hes q1
   go_wp2_with fail
   refine H1.out.mono ?_
   rintro e w3 ⟨rfl,rfl⟩
   go_wp2_with (at_builtin;go_must (refine qo (cs:=bc) rfl _ _ 140 rfl 5 i0 _ 1 Tryz.underlying140 hi5 hz0 hz1 hz2 rfl zxd qa7 qbF w3 w.heap.size w3.heap.size _ b 10 _ (by simp[bc]) (by rfl) (by rfl) rfl HIB.out (by unfold maxLen;omega) zxo HBE.out.size ?_);intro v' w2 hown' hgrow hat;obtain⟨ao,n',cap,rfl⟩:=Qx hown';have HO2:=zxi hown';have HB2:=zxi (qI HBE.out HIB.out HBE.out.size hgrow);clear hown' hgrow hat)
   go_roundw
   case rel=>exact⟨k+1+1,b++[10],by omega,by go_num,by simp;omega,HV.out,HO2.out,HB2.out⟩
   case measure=>simp only[intOf];omega
  | false =>
   rw[q1] at H1
   cases q2:atB (· == 116) s.data.toList (k+1) with
   | true =>
    rw[q2] at H2
    have hes:=qvE q2
    have hlt3:=qbc q2
    rw[HSZ.out] at hlt3
    rw[hes] at hv
    have HV:=zxi (show quotAt s.data.toList (i+1) []=quotAt s.data.toList (k+1+1) (b++[9]) from hv)
    clear hv hes q1 q2
    go_wp2_with fail
    refine H1.out.mono ?_
    rintro e w3 ⟨rfl,rfl⟩
    go_wp2_with fail
    refine H2.out.mono ?_
    rintro e w3 ⟨rfl,rfl⟩
    go_wp2_with (at_builtin;go_must (refine qo (cs:=bc) rfl _ _ 140 rfl 5 i0 _ 1 Tryz.underlying140 hi5 hz0 hz1 hz2 rfl zxd qa7 qbF w3 w.heap.size w3.heap.size _ b 9 _ (by simp[bc]) (by rfl) (by rfl) rfl HIB.out (by unfold maxLen;omega) zxo HBE.out.size ?_);intro v' w2 hown' hgrow hat;obtain⟨ao,n',cap,rfl⟩:=Qx hown';have HO2:=zxi hown';have HB2:=zxi (qI HBE.out HIB.out HBE.out.size hgrow);clear hown' hgrow hat)
    go_roundw
    case rel=>exact⟨k+1+1,b++[9],by omega,by go_num,by simp;omega,HV.out,HO2.out,HB2.out⟩
    case measure=>simp only[intOf];omega
   | false =>
    rw[q2] at H2
    cases q3:atB (· == 34) s.data.toList (k+1) with
    | true =>
     rw[q3] at H3
     have hes:=qvj q3
     have hlt3:=qbc q3
     rw[HSZ.out] at hlt3
     rw[hes] at hv
     have HV:=zxi (show quotAt s.data.toList (i+1) []=quotAt s.data.toList (k+1+1) (b++[34]) from hv)
     have hg2:=Ql hlt3
     rw[is_some.1 q3] at hg2
     have hix:s[k+1]=34:=(Option.some.inj hg2).symm
     have hlt4:(k:Int)+1<(s.size:Int):=by omega
     clear hv hes q1 q2 q3 hg2
     go_wp2_with fail
     refine H1.out.mono ?_
     rintro e w3 ⟨rfl,rfl⟩
     go_wp2_with fail
     refine H2.out.mono ?_
     rintro e w3 ⟨rfl,rfl⟩
     go_wp2_with fail
     refine H3.out.mono ?_
     rintro e w3 ⟨rfl,rfl⟩
     go_wp2_with (at_builtin;go_must (refine qo (cs:=bc) rfl _ _ 140 rfl 5 i0 _ 1 Tryz.underlying140 hi5 hz0 hz1 hz2 rfl zxd qa7 qbF w3 w.heap.size w3.heap.size _ b 34 _ (by simp[bc]) (by rfl) (by rfl) rfl HIB.out (by unfold maxLen;omega) zxo HBE.out.size ?_);intro v' w2 hown' hgrow hat;obtain⟨ao,n',cap,rfl⟩:=Qx hown';have HO2:=zxi hown';have HB2:=zxi (qI HBE.out HIB.out HBE.out.size hgrow);clear hown' hgrow hat)
     go_roundw
     case rel=>exact⟨k+1+1,b++[34],by omega,by go_num,by simp;omega,HV.out,HO2.out,HB2.out⟩
     case measure=>simp only[intOf];omega
    | false =>
     rw[q3] at H3
     cases q4:atB (· == 92) s.data.toList (k+1) with
     | true =>
      rw[q4] at H4
      have hes:=qv7 q4
      have hlt3:=qbc q4
      rw[HSZ.out] at hlt3
      rw[hes] at hv
      have HV:=zxi (show quotAt s.data.toList (i+1) []=quotAt s.data.toList (k+1+1) (b++[92]) from hv)
      have hg2:=Ql hlt3
      rw[is_some.1 q4] at hg2
      have hix:s[k+1]=92:=(Option.some.inj hg2).symm
      have hlt4:(k:Int)+1<(s.size:Int):=by omega
      clear hv hes q1 q2 q3 q4 hg2
      go_wp2_with fail
      refine H1.out.mono ?_
      rintro e w3 ⟨rfl,rfl⟩
      go_wp2_with fail
      refine H2.out.mono ?_
      rintro e w3 ⟨rfl,rfl⟩
      go_wp2_with fail
      refine H3.out.mono ?_
      rintro e w3 ⟨rfl,rfl⟩
      go_wp2_with fail
      refine H4.out.mono ?_
      rintro e w3 ⟨rfl,rfl⟩
      go_wp2_with (at_builtin;go_must (refine qo (cs:=bc) rfl _ _ 140 rfl 5 i0 _ 1 Tryz.underlying140 hi5 hz0 hz1 hz2 rfl zxd qa7 qbF w3 w.heap.size w3.heap.size _ b 92 _ (by simp[bc]) (by rfl) (by rfl) rfl HIB.out (by unfold maxLen;omega) zxo HBE.out.size ?_);intro v' w2 hown' hgrow hat;obtain⟨ao,n',cap,rfl⟩:=Qx hown';have HO2:=zxi hown';have HB2:=zxi (qI HBE.out HIB.out HBE.out.size hgrow);clear hown' hgrow hat)
      go_roundw
      case rel=>exact⟨k+1+1,b++[92],by omega,by go_num,by simp;omega,HV.out,HO2.out,HB2.out⟩
      case measure=>simp only[intOf];omega
     | false =>
      rw[q4] at H4
      cases q5:atB (· == 120) s.data.toList (k+1) with
      | false =>
       rw[q5] at H5
       rw[qqF q1 q2 q3 q4 q5] at hv
       have HV:=zxi (show quotAt s.data.toList (i+1) []=none from hv)
       clear hv q1 q2 q3 q4 q5
       go_wp2_with fail
       refine H1.out.mono ?_
       rintro e w3 ⟨rfl,rfl⟩
       go_wp2_with fail
       refine H2.out.mono ?_
       rintro e w3 ⟨rfl,rfl⟩
       go_wp2_with fail
       refine H3.out.mono ?_
       rintro e w3 ⟨rfl,rfl⟩
       go_wp2_with fail
       refine H4.out.mono ?_
       rintro e w3 ⟨rfl,rfl⟩
       go_wp2_with fail
       refine H5.out.mono ?_
       rintro e w3 ⟨rfl,rfl⟩
       exact qeO
      | true =>
       rw[q5] at H5
       rcases qvl q5 with⟨x,y,hx,hy,hx16,hy16,hes⟩ | ⟨hx,hes⟩ | ⟨x,hx,hx16,hy,hes⟩
       · have hl5:k+4≤s.size:=by
          rcases Nat.lt_or_ge (k+3) s.size with h | h
          · omega
          · rw[qfo h] at hy;omega
         rw[hes] at hv
         rw[show k+1+1=k+2 by omega] at hx
         rw[show k+1+2=k+3 by omega] at hy
         rw[hx] at G1
         rw[hy] at G2
         obtain⟨d,hd⟩:∃ d:UInt8,UInt8.ofNat (x*16+y)=d:=⟨_,rfl⟩
         have hdn:d.toNat=x*16+y:=by rw[← hd];simp;omega
         have hdi:16*(x:Int)+(y:Int)=(d.toNat:Int):=by omega
         have hdl:(d.toNat:Int)≤255:=by omega
         have hd0:0≤(d.toNat:Int):=by omega
         rw[hd] at hv
         have HV:=zxi (show quotAt s.data.toList (i+1) []=quotAt s.data.toList (k+1+3) (b++[d]) from hv)
         have hx0:0≤(x:Int):=by omega
         have hy0:0≤(y:Int):=by omega
         clear hv hes hx hy hd hdn q1 q2 q3 q4 q5
         go_wp2_with fail
         refine H1.out.mono ?_
         rintro e w3 ⟨rfl,rfl⟩
         go_wp2_with fail
         refine H2.out.mono ?_
         rintro e w3 ⟨rfl,rfl⟩
         go_wp2_with fail
         refine H3.out.mono ?_
         rintro e w3 ⟨rfl,rfl⟩
         go_wp2_with fail
         refine H4.out.mono ?_
         rintro e w3 ⟨rfl,rfl⟩
         go_wp2_with fail
         refine H5.out.mono ?_
         rintro e w3 ⟨rfl,rfl⟩
         go_wp2_with fail
         refine G1.out.mono ?_
         rintro e w3 ⟨rfl,rfl⟩
         go_wp2_with fail
         refine G2.out.mono ?_
         rintro e w3 ⟨rfl,rfl⟩
         go_wp2_with fail
         refine G1.out.mono ?_
         rintro e w3 ⟨rfl,rfl⟩
         go_wp2_with fail
         refine G2.out.mono ?_
         rintro e w3 ⟨rfl,rfl⟩
         go_wp2_with (at_builtin;go_must (refine qo (cs:=bc) rfl _ _ 140 rfl 5 i0 _ 1 Tryz.underlying140 hi5 hz0 hz1 hz2 rfl zxd qa7 qbF w3 w.heap.size w3.heap.size _ b d _ (by simp[bc]) (by rfl) (by rfl) rfl HIB.out (by unfold maxLen;omega) zxo HBE.out.size ?_);intro v' w2 hown' hgrow hat;obtain⟨ao,n',cap,rfl⟩:=Qx hown';have HO2:=zxi hown';have HB2:=zxi (qI HBE.out HIB.out HBE.out.size hgrow);clear hown' hgrow hat)
         go_roundw
         case rel=>exact⟨k+1+3,b++[d],by omega,by go_num,by simp;omega,HV.out,HO2.out,HB2.out⟩
         case measure=>simp only[intOf];omega
       · rw[hes] at hv
         have HV:=zxi (show quotAt s.data.toList (i+1) []=none from hv)
         rw[show k+1+1=k+2 by omega] at hx
         clear hv hes q1 q2 q3 q4 q5
         go_wp2_with fail
         refine H1.out.mono ?_
         rintro e w3 ⟨rfl,rfl⟩
         go_wp2_with fail
         refine H2.out.mono ?_
         rintro e w3 ⟨rfl,rfl⟩
         go_wp2_with fail
         refine H3.out.mono ?_
         rintro e w3 ⟨rfl,rfl⟩
         go_wp2_with fail
         refine H4.out.mono ?_
         rintro e w3 ⟨rfl,rfl⟩
         go_wp2_with fail
         refine H5.out.mono ?_
         rintro e w3 ⟨rfl,rfl⟩
         go_wp2_with fail
         refine G1.out.mono ?_
         rintro e w3 ⟨rfl,rfl⟩
         exact qeO
       · rw[hes] at hv
         have HV:=zxi (show quotAt s.data.toList (i+1) []=none from hv)
         rw[show k+1+1=k+2 by omega] at hx
         rw[show k+1+2=k+3 by omega] at hy
         rw[hx] at G1
         have hx0:0≤(x:Int):=by omega
         clear hv hes hx q1 q2 q3 q4 q5
         go_wp2_with fail
         refine H1.out.mono ?_
         rintro e w3 ⟨rfl,rfl⟩
         go_wp2_with fail
         refine H2.out.mono ?_
         rintro e w3 ⟨rfl,rfl⟩
         go_wp2_with fail
         refine H3.out.mono ?_
         rintro e w3 ⟨rfl,rfl⟩
         go_wp2_with fail
         refine H4.out.mono ?_
         rintro e w3 ⟨rfl,rfl⟩
         go_wp2_with fail
         refine H5.out.mono ?_
         rintro e w3 ⟨rfl,rfl⟩
         go_wp2_with fail
         refine G1.out.mono ?_
         rintro e w3 ⟨rfl,rfl⟩
         go_wp2_with fail
         refine G2.out.mono ?_
         rintro e w3 ⟨rfl,rfl⟩
         exact qeO
theorem qev {w:World} {B:Nat} {v:Value} {l:List Tk} {T:TypeId} (h:Own tkC 4 T w B v l) {i:Nat} {t:Tk} (ht:l[i]?=some t) :
  ∃ g cap,v = .slice (some ⟨g,0,none⟩) l.length cap∧g<w.heap.size∧B≤g∧w.cell? ⟨g,i*4,none⟩=some (.int .i64 (t.kind:Int))∧w.cell? ⟨g,i*4+1,none⟩=some (.string (qn t.text)) ∧
   w.cell? ⟨g,i*4+2,none⟩=some (.int .i64 (t.fr:Int))∧w.cell? ⟨g,i*4+3,none⟩=some (.int .i64 (t.ed:Int)):=by
 have hl:0<l.length:=by have:=(List.getElem?_eq_some_iff.1 ht).1;omega
 obtain⟨A,c,hv,hr⟩:=Own.row qai h
 obtain⟨g,off,rfl,hg,hc⟩:=hr hl
 have hoff:off=0:=by
  rcases h.2 with⟨hv2,_⟩ | ⟨g2,cap,cur,hv2,_⟩
  · rw[hv] at hv2;injection hv2 with e1;cases e1
  · rw[hv] at hv2;injection hv2 with e1;injection e1 with e1;injection e1
 subst hoff
 have hB:=(h.lt g (by rw[hv];rfl)).1
 have k0:=hc i t ht 0 _ rfl
 have k1:=hc i t ht 1 _ rfl
 have k2:=hc i t ht 2 _ rfl
 have k3:=hc i t ht 3 _ rfl
 rw[Nat.zero_add] at k0 k1 k2 k3
 exact⟨g,c,hv,hg,hB,k0,k1,k2,k3⟩
theorem qle (t:Tk):qcq t.kind t.text=JF t:=by
 unfold qcq JF jp
 by_cases h1:t.kind=1∨t.kind=3∨t.kind=4∨t.kind=5
 · rw[if_pos h1]
   rcases h1 with h | h | h | h<;>simp[h]
 · rw[if_neg h1]
   simp only[not_or] at h1
   by_cases h2:t.kind=2
   · simp[h2]
   · rw[if_neg h2]
     by_cases h6:t.kind=6
     · simp[h6]
     · simp[h1.1,h1.2.1,h1.2.2.1,h1.2.2.2,h2,h6]
theorem qmC:(Tryz.prog.info? 83).map (fun i=>(i.zero,i.size,i.bytes))=some (some (.agg #[.int .i64 0,.string ⟨#[]⟩,.int .i64 0,.int .i64 0]),4,40):=by kernel_rfl
def qfs (last:Option Tk) (many:Nat) (acc:List Tk):Prop:=match last with
 | none=>many=0
 | some t=>0<many∧∃ a,acc=a++[t]
theorem Qv {w:World} {B:Nat} {v:Value} {l:List Tk} {T:TypeId} (h:Own tkC 4 T w B v l):∃ ao n cap,v = .slice ao n cap:=by
 exact qrD
theorem qws (B:Nat) (v:Value) (acc:List Tk) (last:Option Tk) (many:Nat) (w:World) (hB:B≤w.heap.size) (hown:Own tkC 4 83 w B v acc) (hl:acc.length≤1000000) (hm:qfs last many acc) :
  Calls Tryz.prog 106 #[v,.int .i64 (many:Int)] w fun e w'=>∃ v',e = .returned v'∧Own tkC 4 83 w' B v' (jC acc last)∧Below B w w':=by
 have HO:=zxi hown
 cases last with
 | none =>
  obtain rfl:many=0:=hm
  obtain⟨ao,n,cap,rfl⟩:=Qv hown
  clear hown
  go_enter Tryz.func106,Tryz.ntmps106
  go_wp2_with fail
  go_ret
  exact⟨_,rfl,HO.out,Below.refl _ _⟩
 | some t =>
  obtain⟨hm0,a,rfl⟩:=hm
  obtain⟨g,cap,rfl,hg,hBg,c0,c1,c2,c3⟩:=qev hown (i:=a.length) (t:=t) zxs
  have hlen:(a++[t]).length=a.length+1:=by simp
  rw[hlen] at hl
  rw[hlen] at HO ⊢
  have hmz:((many:Int) == 0)=false:=beq_eq_false_iff_ne.2 zxo
  obtain⟨i31,hi31,hz0,hz1,hz2⟩:=jg qmC
  obtain⟨k,hk⟩:∃ k,t.kind=k:=⟨_,rfl⟩
  obtain⟨tx,htx⟩:∃ tx,qn t.text=tx:=⟨_,rfl⟩
  obtain⟨p,hp⟩:∃ p,t.fr=p:=⟨_,rfl⟩
  obtain⟨q,hq⟩:∃ q,t.ed=q:=⟨_,rfl⟩
  have HE:=zxi (fun w=>quW k tx p q w)
  have hev:qcq k tx.data.toList=JF t:=by rw[← hk,← htx,qj];exact qle t
  rw[hev] at HE
  have HBL:=zxi ((Below.refl B w).alloc hB (.cells #[.int .i64 (k:Int),.string tx,.int .i64 (p:Int),.int .i64 (q:Int)] 83))
  have HA:=zxi (heap_alloc_new w (.cells #[.int .i64 (k:Int),.string tx,.int .i64 (p:Int),.int .i64 (q:Int)] 83))
  rw[hk] at c0
  rw[htx] at c1
  rw[hp] at c2
  rw[hq] at c3
  unfold qcm at HE
  cases he:JF t with
  | false =>
   rw[he] at HE
   have HV:=zxi (show jC (a++[t]) (some t)=a++[t] from if_neg (by rw[he];simp))
   clear hev hk htx hp hq he hown hlen hm0
   go_enter Tryz.func106,Tryz.ntmps106
   go_wp2_with (first | (go_at_call 127;refine(HE.out _).mono ?_;rintro e w1 ⟨rfl,hb1⟩;have HB1:=zxi hb1;clear hb1))
   go_ret
   exact⟨_,rfl,by rw[HV.out];exact(HO.out.alloc _).below HB1.out,HBL.out.trans (HB1.out.mono (Nat.le_trans hB HBL.out.size))⟩
  | true =>
   rw[he] at HE
   have HV:=zxi (show jC (a++[t]) (some t)=(a++[t])++[⟨7,[],q,q⟩] by rw[← hq];exact if_pos he)
   clear hev hk htx hp hq he hown hlen hm0
   go_enter Tryz.func106,Tryz.ntmps106
   go_wp2_with (first | (go_at_call 127;refine(HE.out _).mono ?_;rintro e w1 ⟨rfl,hb1⟩;obtain⟨d0,d1,d2,d3,dz,dl⟩:=qq (qe HA.out hb1);have HO1:=zxi ((HO.out.alloc _).below hb1);have HB1:=zxi (HBL.out.trans (hb1.mono (Nat.le_trans hB HBL.out.size)));clear hb1) | (at_builtin;go_must (refine qo (cs:=tkC) rfl _ _ 79 rfl 83 i31 _ 40 Tryz.underlying79 hi31 hz0 hz1 hz2 rfl zxd qai qcI w1 B w1.heap.size _ (a++[t]) ⟨7,[],q,q⟩ _ rfl (by rfl) (by rfl) rfl HO1.out (by unfold maxLen;simp;omega) (by simp;omega) (Nat.le_trans hB HB1.out.size) ?_);intro v' w2 hown' hgrow hat;obtain⟨ao,n',cap2,rfl⟩:=Qv hown';have HO2:=zxi hown';have HB2:=zxi (qI HB1.out HO1.out (Nat.le_trans hB HB1.out.size) hgrow);clear hown' hgrow hat))
   go_ret
   exact⟨_,rfl,by rw[HV.out];exact HO2.out,HB2.out⟩
theorem qgg (s:ByteArray) (w:World) (hG:LexG w) {l:List Tk} (h:ja s.data.toList = .ok l) :
  Calls Tryz.prog 135 #[.string s] w fun e w'=>(∃ v,e = .returned (.tuple #[v,.int .i64 0,.int .i64 0])∧Own tkC 4 128 w' w.heap.size v l)∧Below w.heap.size w w':=by
 refine(qbX s w hG).mono ?_
 rintro e w' ⟨h1,h2⟩
 unfold jj at h1
 rw[h] at h1
 obtain⟨v,h3,h4,_⟩:=h1
 exact⟨⟨v,h3,h4⟩,h2⟩
theorem qiz (s:ByteArray) (w:World) (hG:LexG w) {p:Nat} {er:Int} (h:ja s.data.toList = .error (p,er)) :
  Calls Tryz.prog 135 #[.string s] w fun e w'=>e = .returned (.tuple #[.slice none 0 0,.int .i64 (p:Nat),.int .i64 er])∧Below w.heap.size w w':=by
 refine(qbX s w hG).mono ?_
 rintro e w' ⟨h1,h2⟩
 unfold jj at h1
 rw[h] at h1
 exact⟨h1,h2⟩
end Go.Proofs.YtacdfjlncfidgaaGreatDoor
