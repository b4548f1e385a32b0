/- A part of what the claim leans on. -/
import Derived.Test.YtacdfjlncfidgaaGreatDoorQS
import Derived.Test.YtacdfjlncfidgaaGreatDoorQM
import Derived.Test.YtacdfjlncfidgaaGreatDoorQR
namespace Go.Proofs.YtacdfjlncfidgaaGreatDoor
open Go.RowKit
set_option linter.unusedVariables false
set_option linter.unusedSimpArgs false
set_option maxRecDepth 1000000
set_option maxHeartbeats 6400000
theorem qv0 (s:ByteArray) (P b:Nat) (c:List Nat) (ng tr:Bool) (w:World) (h:Scan s.data.toList P) (hP:P+1<s.size) (hPs:s.size≤P+4) (he:s.data.toList[P]?=some 101) (hds:∀ k c,P+1≤k→s.data.toList[k]?=some c→qf c=true) (hm:Dcm w b c 0 0 ng tr) :
  Calls Tryz.prog 219 #[.pointer (some ⟨b,0,none⟩),.string s] w fun e w'=>e = .returned (.bool true)∧JM w b (jZ s.data.toList P) (qM 0 (s.data.toList.drop (P+1)):Nat) w':=by
 have hsz:s.data.toList.length=s.size:=rfl
 have hs3:3≤s.size:=h.size
 have hs60:s.size≤60:=h.most
 have hPle:P≤s.size:=h.le
 have hP2:=h.pos
 have H:=zxi h
 have HL101:=zxi ji
 obtain⟨c0,hc0,hd0⟩:=h.first
 have hget:∀ k (hk:k<s.size),s.data.toList[k]?=some s[k]:=fun k hk=>by rw[List.getElem?_eq_getElem (by rw[hsz];exact hk)];rfl
 have HGET:=zxi hget
 have hp0:0<s.size:=by omega
 have hne:¬ s=ByteArray.empty:=by rintro rfl;simp at hs3
 have e0:(s[0]'hp0)=c0:=Option.some.inj ((hget 0 zxo).symm.trans hc0)
 have f43:((c0.toNat:Int) == 43)=false:=by simp[qf] at hd0;rw[beq_eq_false_iff_ne];omega
 have f45:((c0.toNat:Int) == 45)=false:=by simp[qf] at hd0;rw[beq_eq_false_iff_ne];omega
 have HDC:=zxi ((hm.setNg false).setTr false)
 have m0:=hm.ng_
 have m1:=hm.tr_
 have q0:=hm.thaw 802
 have q1:=hm.thaw 803
 have HE:=zxi he
 have HDS:=zxi hds
 clear h hget hc0 hd0 hm he hds
 go_enter Tryz.func219,Tryz.ntmps219
 go_wp2_with fail
 go_outline
 first | go_step3 | skip
 go_wp2_with fail
 first | go_step3 | skip
 go_wp2_with fail
 go_outline
 have HB0:=zxi (((Below.refl b w).setCell (p:=⟨b,802,none⟩) zxn (Value.bool false)).setCell (p:=⟨b,803,none⟩) zxn (Value.bool false))
 clear m0 m1 q0 q1
 go_loopw [5,6,7] (fun iv dotv digv wr=>∃ (k:Nat) (cc:List Nat),k≤P∧iv = .int .i64 k∧dotv = .bool (jZ s.data.toList k).dot∧digv = .bool (jZ s.data.toList k).dig∧Dcm wr b cc ((jZ s.data.toList k).D.length:Int) (jZ s.data.toList k).dp false false∧Has cc 0 (jZ s.data.toList k).D∧Below b w wr) (fun iv _ _ _=>P-(intOf iv).toNat)
 case atStart=>exact⟨0,c,Nat.zero_le _,rfl,rfl,rfl,HDC.out,Has.nil,HB0.out⟩
 case round =>
  obtain⟨k,cc,hk,rfl,rfl,rfl,hM,hH,hB⟩:=hrel
  have HM:=zxi hM
  have HH:=zxi hH
  have HB:=zxi hB
  have HOK:=zxi (SS.ok s.data.toList k)
  have hok1:=(SS.ok s.data.toList k).len
  have hok2:=(SS.ok s.data.toList k).dp0
  have hok3:=(SS.ok s.data.toList k).dp1
  have m0:=hM.nd_
  have m1:=hM.dp_
  have q0:=hM.thaw 800
  have q1:=hM.thaw 801
  have hcl:=hM.len
  clear hM hH hB
  by_cases hlt:k<P
  · exact zz2
  · obtain rfl:k=P:=by omega
    have t1:=(H.out.rs_ss zxn).dot.symm.trans H.out.dot
    have t2:=(H.out.rs_ss zxn).dig.symm.trans H.out.dig
    clear hk hlt
    obtain⟨σ,hσ⟩:∃ σ,jZ s.data.toList k=σ:=⟨_,rfl⟩
    rw[hσ] at t1 t2 HM HH hok1 hok2 hok3 m0 m1 ⊢
    obtain⟨D,dp,dot,dig⟩:=σ
    dsimp only at t1 t2 HM HH hok1 hok2 hok3 m0 m1
    subst t1 t2
    have HSG:=zxi hσ
    clear hσ hcl
    have e2:s[k]=101:=Option.some.inj ((HGET.out k zxo).symm.trans HE.out)
    have hks:(k:Int)<(s.size:Int):=by omega
    obtain⟨Q,hQ⟩:∃ Q,k+1=Q:=⟨_,rfl⟩
    have hQs:Q<s.size:=by omega
    obtain⟨cq,hcq⟩:∃ c,(s[Q]'hQs)=c:=⟨_,rfl⟩
    have HDQ:=zxi (HDS.out Q cq zxo ((HGET.out Q zxo).trans (congrArg some hcq)))
    have r1:¬ (cq.toNat:Int)<48:=by have:=HDQ.out;simp[qf] at this;omega
    have r2:¬ (57:Int)<(cq.toNat:Int):=by have:=HDQ.out;simp[qf] at this;omega
    have r3:((cq.toNat:Int) == 43)=false:=by rw[beq_eq_false_iff_ne];omega
    have r4:((cq.toNat:Int) == 45)=false:=by rw[beq_eq_false_iff_ne];omega
    have hQ1:(k:Int)+1=(Q:Int):=by omega
    exact qwm
theorem qvm (s:ByteArray) (P b:Nat) (c:List Nat) (ng tr:Bool) (w:World) (h:Scan s.data.toList P) (hP:P+2<s.size) (hPs:s.size≤P+5) (he:s.data.toList[P]?=some 101) (hg:s.data.toList[P+1]?=some 43) (hds:∀ k c,P+2≤k→s.data.toList[k]?=some c→qf c=true) (hm:Dcm w b c 0 0 ng tr) :
  Calls Tryz.prog 219 #[.pointer (some ⟨b,0,none⟩),.string s] w fun e w'=>e = .returned (.bool true)∧JM w b (jZ s.data.toList P) (qM 0 (s.data.toList.drop (P+2)):Nat) w':=by
 have hsz:s.data.toList.length=s.size:=rfl
 have hs3:3≤s.size:=h.size
 have hs60:s.size≤60:=h.most
 have hPle:P≤s.size:=h.le
 have hP2:=h.pos
 have H:=zxi h
 have HL101:=zxi ji
 obtain⟨c0,hc0,hd0⟩:=h.first
 have hget:∀ k (hk:k<s.size),s.data.toList[k]?=some s[k]:=fun k hk=>by rw[List.getElem?_eq_getElem (by rw[hsz];exact hk)];rfl
 have HGET:=zxi hget
 have hp0:0<s.size:=by omega
 have hne:¬ s=ByteArray.empty:=by rintro rfl;simp at hs3
 have e0:(s[0]'hp0)=c0:=Option.some.inj ((hget 0 zxo).symm.trans hc0)
 have f43:((c0.toNat:Int) == 43)=false:=by simp[qf] at hd0;rw[beq_eq_false_iff_ne];omega
 have f45:((c0.toNat:Int) == 45)=false:=by simp[qf] at hd0;rw[beq_eq_false_iff_ne];omega
 have HDC:=zxi ((hm.setNg false).setTr false)
 have m0:=hm.ng_
 have m1:=hm.tr_
 have q0:=hm.thaw 802
 have q1:=hm.thaw 803
 have HE:=zxi he
 have HDS:=zxi hds
 have HG:=zxi hg
 clear h hget hc0 hd0 hm he hds hg
 go_enter Tryz.func219,Tryz.ntmps219
 go_wp2_with fail
 go_outline
 first | go_step3 | skip
 go_wp2_with fail
 first | go_step3 | skip
 go_wp2_with fail
 go_outline
 have HB0:=zxi (((Below.refl b w).setCell (p:=⟨b,802,none⟩) zxn (Value.bool false)).setCell (p:=⟨b,803,none⟩) zxn (Value.bool false))
 clear m0 m1 q0 q1
 go_loopw [5,6,7] (fun iv dotv digv wr=>∃ (k:Nat) (cc:List Nat),k≤P∧iv = .int .i64 k∧dotv = .bool (jZ s.data.toList k).dot∧digv = .bool (jZ s.data.toList k).dig∧Dcm wr b cc ((jZ s.data.toList k).D.length:Int) (jZ s.data.toList k).dp false false∧Has cc 0 (jZ s.data.toList k).D∧Below b w wr) (fun iv _ _ _=>P-(intOf iv).toNat)
 case atStart=>exact⟨0,c,Nat.zero_le _,rfl,rfl,rfl,HDC.out,Has.nil,HB0.out⟩
 case round =>
  obtain⟨k,cc,hk,rfl,rfl,rfl,hM,hH,hB⟩:=hrel
  have HM:=zxi hM
  have HH:=zxi hH
  have HB:=zxi hB
  have HOK:=zxi (SS.ok s.data.toList k)
  have hok1:=(SS.ok s.data.toList k).len
  have hok2:=(SS.ok s.data.toList k).dp0
  have hok3:=(SS.ok s.data.toList k).dp1
  have m0:=hM.nd_
  have m1:=hM.dp_
  have q0:=hM.thaw 800
  have q1:=hM.thaw 801
  have hcl:=hM.len
  clear hM hH hB
  by_cases hlt:k<P
  · exact zz2
  · obtain rfl:k=P:=by omega
    have t1:=(H.out.rs_ss zxn).dot.symm.trans H.out.dot
    have t2:=(H.out.rs_ss zxn).dig.symm.trans H.out.dig
    clear hk hlt
    obtain⟨σ,hσ⟩:∃ σ,jZ s.data.toList k=σ:=⟨_,rfl⟩
    rw[hσ] at t1 t2 HM HH hok1 hok2 hok3 m0 m1 ⊢
    obtain⟨D,dp,dot,dig⟩:=σ
    dsimp only at t1 t2 HM HH hok1 hok2 hok3 m0 m1
    subst t1 t2
    have HSG:=zxi hσ
    clear hσ hcl
    have e2:s[k]=101:=Option.some.inj ((HGET.out k zxo).symm.trans HE.out)
    have hks:(k:Int)<(s.size:Int):=by omega
    have e3:s[k+1]=43:=Option.some.inj ((HGET.out (k+1) zxo).symm.trans HG.out)
    have hks2:(k:Int)+1<(s.size:Int):=by omega
    obtain⟨Q,hQ⟩:∃ Q,k+2=Q:=⟨_,rfl⟩
    have hQs:Q<s.size:=by omega
    obtain⟨cq,hcq⟩:∃ c,(s[Q]'hQs)=c:=⟨_,rfl⟩
    have HDQ:=zxi (HDS.out Q cq zxo ((HGET.out Q zxo).trans (congrArg some hcq)))
    have r1:¬ (cq.toNat:Int)<48:=by have:=HDQ.out;simp[qf] at this;omega
    have r2:¬ (57:Int)<(cq.toNat:Int):=by have:=HDQ.out;simp[qf] at this;omega
    have r3:((cq.toNat:Int) == 43)=false:=by rw[beq_eq_false_iff_ne];omega
    have r4:((cq.toNat:Int) == 45)=false:=by rw[beq_eq_false_iff_ne];omega
    have hQ1:(k:Int)+1+1=(Q:Int):=by omega
    exact qwm
theorem qvB (s:ByteArray) (P b:Nat) (c:List Nat) (ng tr:Bool) (w:World) (h:Scan s.data.toList P) (hP:P+2<s.size) (hPs:s.size≤P+5) (he:s.data.toList[P]?=some 101) (hg:s.data.toList[P+1]?=some 45) (hds:∀ k c,P+2≤k→s.data.toList[k]?=some c→qf c=true) (hm:Dcm w b c 0 0 ng tr) :
  Calls Tryz.prog 219 #[.pointer (some ⟨b,0,none⟩),.string s] w fun e w'=>e = .returned (.bool true)∧JM w b (jZ s.data.toList P) (-(qM 0 (s.data.toList.drop (P+2)):Nat)) w':=by
 have hsz:s.data.toList.length=s.size:=rfl
 have hs3:3≤s.size:=h.size
 have hs60:s.size≤60:=h.most
 have hPle:P≤s.size:=h.le
 have hP2:=h.pos
 have H:=zxi h
 have HL101:=zxi ji
 obtain⟨c0,hc0,hd0⟩:=h.first
 have hget:∀ k (hk:k<s.size),s.data.toList[k]?=some s[k]:=fun k hk=>by rw[List.getElem?_eq_getElem (by rw[hsz];exact hk)];rfl
 have HGET:=zxi hget
 have hp0:0<s.size:=by omega
 have hne:¬ s=ByteArray.empty:=by rintro rfl;simp at hs3
 have e0:(s[0]'hp0)=c0:=Option.some.inj ((hget 0 zxo).symm.trans hc0)
 have f43:((c0.toNat:Int) == 43)=false:=by simp[qf] at hd0;rw[beq_eq_false_iff_ne];omega
 have f45:((c0.toNat:Int) == 45)=false:=by simp[qf] at hd0;rw[beq_eq_false_iff_ne];omega
 have HDC:=zxi ((hm.setNg false).setTr false)
 have m0:=hm.ng_
 have m1:=hm.tr_
 have q0:=hm.thaw 802
 have q1:=hm.thaw 803
 have HE:=zxi he
 have HDS:=zxi hds
 have HG:=zxi hg
 clear h hget hc0 hd0 hm he hds hg
 go_enter Tryz.func219,Tryz.ntmps219
 go_wp2_with fail
 go_outline
 first | go_step3 | skip
 go_wp2_with fail
 first | go_step3 | skip
 go_wp2_with fail
 go_outline
 have HB0:=zxi (((Below.refl b w).setCell (p:=⟨b,802,none⟩) zxn (Value.bool false)).setCell (p:=⟨b,803,none⟩) zxn (Value.bool false))
 clear m0 m1 q0 q1
 go_loopw [5,6,7] (fun iv dotv digv wr=>∃ (k:Nat) (cc:List Nat),k≤P∧iv = .int .i64 k∧dotv = .bool (jZ s.data.toList k).dot∧digv = .bool (jZ s.data.toList k).dig∧Dcm wr b cc ((jZ s.data.toList k).D.length:Int) (jZ s.data.toList k).dp false false∧Has cc 0 (jZ s.data.toList k).D∧Below b w wr) (fun iv _ _ _=>P-(intOf iv).toNat)
 case atStart=>exact⟨0,c,Nat.zero_le _,rfl,rfl,rfl,HDC.out,Has.nil,HB0.out⟩
 case round =>
  obtain⟨k,cc,hk,rfl,rfl,rfl,hM,hH,hB⟩:=hrel
  have HM:=zxi hM
  have HH:=zxi hH
  have HB:=zxi hB
  have HOK:=zxi (SS.ok s.data.toList k)
  have hok1:=(SS.ok s.data.toList k).len
  have hok2:=(SS.ok s.data.toList k).dp0
  have hok3:=(SS.ok s.data.toList k).dp1
  have m0:=hM.nd_
  have m1:=hM.dp_
  have q0:=hM.thaw 800
  have q1:=hM.thaw 801
  have hcl:=hM.len
  clear hM hH hB
  by_cases hlt:k<P
  · exact zz2
  · obtain rfl:k=P:=by omega
    have t1:=(H.out.rs_ss zxn).dot.symm.trans H.out.dot
    have t2:=(H.out.rs_ss zxn).dig.symm.trans H.out.dig
    clear hk hlt
    obtain⟨σ,hσ⟩:∃ σ,jZ s.data.toList k=σ:=⟨_,rfl⟩
    rw[hσ] at t1 t2 HM HH hok1 hok2 hok3 m0 m1 ⊢
    obtain⟨D,dp,dot,dig⟩:=σ
    dsimp only at t1 t2 HM HH hok1 hok2 hok3 m0 m1
    subst t1 t2
    have HSG:=zxi hσ
    clear hσ hcl
    have e2:s[k]=101:=Option.some.inj ((HGET.out k zxo).symm.trans HE.out)
    have hks:(k:Int)<(s.size:Int):=by omega
    have e3:s[k+1]=45:=Option.some.inj ((HGET.out (k+1) zxo).symm.trans HG.out)
    have hks2:(k:Int)+1<(s.size:Int):=by omega
    obtain⟨Q,hQ⟩:∃ Q,k+2=Q:=⟨_,rfl⟩
    have hQs:Q<s.size:=by omega
    obtain⟨cq,hcq⟩:∃ c,(s[Q]'hQs)=c:=⟨_,rfl⟩
    have HDQ:=zxi (HDS.out Q cq zxo ((HGET.out Q zxo).trans (congrArg some hcq)))
    have r1:¬ (cq.toNat:Int)<48:=by have:=HDQ.out;simp[qf] at this;omega
    have r2:¬ (57:Int)<(cq.toNat:Int):=by have:=HDQ.out;simp[qf] at this;omega
    have r3:((cq.toNat:Int) == 43)=false:=by rw[beq_eq_false_iff_ne];omega
    have r4:((cq.toNat:Int) == 45)=false:=by rw[beq_eq_false_iff_ne];omega
    have hQ1:(k:Int)+1+1=(Q:Int):=by omega
    have hQ2:(Q:Int)<(s.size:Int):=by omega
    have HQQ:=zxi hQ
    clear hQ
    go_wp2_with (go_at_call 204;refine(HL101.out _).mono ?_;rintro e wx ⟨rfl,rfl⟩)
    go_loopw [5,9] (fun i ev wr2=>∃ (j v:Nat),Q≤j∧j≤s.size∧i = .int .i64 j∧ev = .int .i64 v∧v<10^(j-Q)∧v=qM 0 ((s.data.toList.drop Q).take (j-Q))∧wr=wr2) (fun i _ _=>s.size-(intOf i).toNat)
    case atStart=>exact⟨Q,0,Nat.le_refl _,by omega,rfl,rfl,by simp,by simp[qM],rfl⟩
    case round =>
     obtain⟨j,v,hj1,hj2,rfl,rfl,hv1,hv2,rfl⟩:=hrel
     have HV2:=zxi hv2
     have HV1:=zxi hv1
     clear hv2
     by_cases hjs:j<s.size
     · exact qxu
     · obtain rfl:j=s.size:=by omega
       have HVV:=zxi (show(qM 0 (s.data.toList.drop Q):Nat)=v by rw[HV2.out,List.take_of_length_le (by simp<;>omega)])
       have hv999:v<1000:=by
        exact qqf
       clear hv1
       go_wp2_with fail
       first | rw[Exit.noGoto_ret] | skip
       go_ret
       have hQe:=HQQ.out
       subst hQe
       refine⟨rfl,cc,?_,?_,?_⟩
       · rw[HSG.out,HVV.out]
         first | exact HM.out.setDp _ | (have h1:=HM.out.setDp (dp + -v);trace_state;simpa using h1)
       · rw[HSG.out];exact HH.out
       · exact HB.out.setCell (p:=⟨b,801,none⟩) zxn _
end Go.Proofs.YtacdfjlncfidgaaGreatDoor
