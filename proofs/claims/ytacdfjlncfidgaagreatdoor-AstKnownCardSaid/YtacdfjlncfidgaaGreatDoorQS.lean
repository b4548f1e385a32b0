/- Ways of ending a proof, for what follows. -/
import Derived.Test.YtacdfjlncfidgaaGreatDoorProg
import Derived.ProofKit
import Derived.LaidOnce
import Derived.SevenTiedAt
import Derived.WalkKit
import Derived.Outline
import Derived.Lib.Hide
import Derived.WalkLawsBesides
import Derived.WalkSpells
import Derived.OwnWalk
import Derived.Deep.QuietTactic
import Derived.BigQuiet
import Derived.Laws.BytesString
import Derived.Laws.Bits64b
import Derived.Lib.SmallJoins
import Derived.Deep.AppendLies
import Derived.Deep.Draws
import Derived.Laws.OwnMore
import Derived.Maps.AppendAt
import Derived.Lib.LaidU8
import Derived.LaidLaws
import Derived.Lay
import Derived.Lib.ItoaLen
import Derived.Laws.FloatArith
import Derived.Deep.DeepCutAuto
import Derived.Deep.RegionWith
import Derived.Deep.CutBlock
import Derived.WalkMore
import Derived.Scope
import Derived.Shelf.Strings.SlTrimAscii
import Derived.Sort.Row
import Derived.Laws.Rows
import Derived.Laws.ResultCell
import Derived.Deep.RegionHeld3
import Derived.Deep.RegionHeldLaw
import Derived.OpenShut
import Derived.HandedShaped
import Derived.Deep.Slices
import Derived.RangeFuncOwn
import Derived.RangeFuncCalls
import Derived.RangeFuncLeaves
import Derived.BigRegion
import Derived.TacticsIn
import Derived.OwnWalkIn
import Derived.LoopIn
import Derived.Deep.RegionHeld
import Derived.Below
import Derived.Laws.MakeOwn
import Derived.Laws.CopyOwn
import Derived.Laws.EntriesVeiled
import Derived.Deep.Cut
namespace Go.Proofs.YtacdfjlncfidgaaGreatDoor
open Go.RowKit
theorem zxq {p:Prop} (h:p:=by repeat (first | exact zR _ | assumption | apply zA | apply zD | refine zT ?_ (by assumption))):p:=h
theorem zxh {p:Prop} (h:p:=by repeat (first | assumption | exact qG (by simp) | apply qb | (refine qg ?_ (by assumption)))):p:=h
theorem zxe {p:Prop} (h:p:=by repeat (first | exact zR _ | assumption | apply zD | refine zT ?_ (by assumption))):p:=h
theorem zxr {p:Prop} (h:p:=by repeat (first | exact zR _ | apply zD)):p:=h
theorem zxo {p:Prop} (h:p:=by omega):p:=h
theorem zxd {p:Prop} (h:p:=by decide):p:=h
theorem zxa {p:Prop} (h:p:=by assumption):p:=h
theorem zxs {p:Prop} (h:p:=by simp):p:=h
theorem zxn {n:Nat}:n≤n:=Nat.le_refl n
theorem zxi {p:Prop} (h:p):Hid p:=Lib.hid h
theorem zz0 {p:Prop} (h:p:=by
 obtain⟨c,hc⟩:∃ c,s[k]=c:=⟨_,rfl⟩
 have HC:=zxi ((HGET.out k zxo).trans (congrArg some hc))
 have hst:=qbg HC.out
 have HBY:=zxi (H.out.bytes k c hlt HC.out)
 have hks:(k:Int)<(s.size:Int):=by omega
 clear hok
 generalize je s.data.toList k=σ at *
 obtain⟨mant,nd,ndm,dp,dot,dig,trunc⟩:=σ
 dsimp only at *
 by_cases h46:c=46
 · have hdot:dot=false:=by
    rcases HBY.out with h1 | ⟨_,h1⟩
    · rw[h46] at h1;exact absurd h1 zxd
    · exact h1
   subst h46 hdot
   rw[qcC] at hst
   have HST:=zxi hst
   clear hst gm18
   go_wp2_with fail
   exact qq8
 · have hdg:qf c=true:=by
    exact qk3
   exact qwK):p:=h
theorem zz1 {p:Prop} (h:p:=by
 have hdg:qf c=true:=by
  exact qk3
 exact qwK):p:=h
theorem zz2 {p:Prop} (h:p:=by
 obtain⟨c,hc⟩:∃ c,s[k]=c:=⟨_,rfl⟩
 have HC:=zxi ((HGET.out k zxo).trans (congrArg some hc))
 have hst:=qaa HC.out
 have HBY:=zxi (H.out.bytes k c hlt HC.out)
 have HDOT:=zxi (H.out.rs_ss hk)
 have hks:(k:Int)<(s.size:Int):=by omega
 generalize jZ s.data.toList k=σ at *
 obtain⟨D,dp,dot,dig⟩:=σ
 dsimp only at *
 obtain⟨N,hN⟩:∃ N,D.length=N:=⟨_,rfl⟩
 rw[hN] at m0 hok1
 have HN:=zxi hN
 clear hN
 by_cases h46:c=46
 · have hdot:dot=false:=by
    rcases HBY.out with h1 | ⟨_,h1⟩
    · rw[h46] at h1;exact absurd h1 zxd
    · exact HDOT.out.dot.symm.trans h1
   subst h46 hdot
   rw[qfV] at hst
   have HST:=zxi hst
   clear hst hcl
   go_wp2_with fail
   refine⟨⟨k+1,cc,by omega,by go_num,by rw[HST.out],by rw[HST.out],by rw[HST.out];simpa[HN.out] using HM.out.setDp N,by rw[HST.out];exact HH.out,HB.out.setCell (p:=⟨b,801,none⟩) zxn _⟩,by simp[intOf];omega⟩
 · have hdg:qf c=true:=by
    exact qk3
   exact qqg):p:=h
theorem zz3 {p:Prop} (h:p:=by
 have k5:((c.toNat:Int) == 48)=true:=by simp;omega
 exact qxo):p:=h
theorem zz4 {p:Prop} (h:p:=by
 have hdg:qf c=true:=by
  exact qk3
 exact qqg):p:=h
theorem zz5 {p:Prop} (h:p:=by
 go_enter Tryz.func130,Tryz.ntmps130
 go_wp2_with fail
 refine HRUN0.out.mono ?_
 rintro e wx ⟨rfl,rfl⟩
 go_wp2_with fail
 refine HRUN1.out.mono ?_
 rintro e wx ⟨rfl,rfl⟩
 go_wp2_with fail
 refine(HE.out _).mono ?_
 rintro e wx ⟨rfl,rfl⟩
 go_wp2_with fail
 go_quiet (fail)
 go_wp2_with fail
 go_loopw [11,12] (fun pv iv wr=>∃ (i c:Nat) (A:Option Addr),pv = .slice A (qC (qM 0 (ALL.data.toList.take i))).length c∧iv = .int .i64 i∧i≤ALL.size∧RowOf uc 1 wr wr.heap.size A (qC (qM 0 (ALL.data.toList.take i)))∧Below w.heap.size w wr) (fun _ iv _=>ALL.size-(intOf iv).toNat)
 case atStart =>exact qre
 case round =>
  obtain⟨i,c,A,rfl,rfl,hi,hr,hb⟩:=hrel
  exact qub):p:=h
theorem zz6 {p:Prop} (h:p:=by
 have hQ2:(Q:Int)<(s.size:Int):=by omega
 have HQQ:=zxi hQ
 clear hQ
 go_wp2_with (go_at_call 204;refine(HL101.out _).mono ?_;rintro e wx ⟨rfl,rfl⟩)
 go_loop [7,9,20] (fun i und ev=>∃ (j v:Nat),Q≤j∧j≤s.size∧i = .int .i64 j∧und = .bool false∧ev = .int .i64 v∧v<10^(j-Q)∧v=qM 0 ((s.data.toList.drop Q).take (j-Q))) (fun i _ _=>s.size-(intOf i).toNat)
 case atStart=>exact⟨Q,0,Nat.le_refl _,by omega,rfl,rfl,rfl,by simp,by simp[qM]⟩
 case round =>
  obtain⟨j,v,hj1,hj2,rfl,rfl,rfl,hv1,hv2⟩:=hrel
  exact qwp):p:=h
theorem zz7 {p:Prop} (h:p:=by
 obtain⟨i,c,A,rfl,rfl,hi,hr,hb⟩:=hrel
 exact qub):p:=h
theorem zz8 {p:Prop} (h:p:=by
 obtain⟨x,hx⟩:∃ x,ALL[i]=x:=⟨_,rfl⟩
 exact qw2):p:=h
theorem zz9 {p:Prop} (h:p:=by
 have k5:((c.toNat:Int) == 48)=false:=by simp;omega
 exact qxt):p:=h
theorem qxP {p:Prop} (h:p:=by
 have hz':¬ (c=48∧D=[]):=fun e=>hz ⟨by rw[e.1];rfl,by rw[← HN.out,e.2];rfl⟩
 exact qwP):p:=h
theorem qxN {p:Prop} (h:p:=by
 have k6:((nd:Int) == 0)=false:=by simp;omega
 exact qxx):p:=h
theorem qxW {p:Prop} (h:p:=by
 obtain⟨j,v,hj1,hj2,rfl,rfl,rfl,hv1,hv2⟩:=hrel
 exact qwp):p:=h
theorem qv5 {p:Prop} (h:p:=by
 obtain⟨j,lo,hi,rfl,rfl,rfl,hj1,hj2,hok,rfl⟩:=hrel
 by_cases hjn:j≤2
 · have hjn2:(j:Int)≤2:=by omega
   exact qw0
 · have hj4:j=3:=by omega
   subst hj4
   have HW:=zxi (show qW (s.data.toList.drop k)=3 by rw[HV.out,hok];rfl)
   clear hok
   exact qio):p:=h
theorem qxS {p:Prop} (h:p:=by
 have hjn2:(j:Int)≤2:=by omega
 exact qw0):p:=h
theorem qxM {p:Prop} (h:p:=by
 obtain rfl:i=ALL.size:=by omega
 exact qwZ):p:=h
theorem qxH {p:Prop} (h:p:=by
 obtain⟨c,hc⟩:∃ c,s[j]=c:=⟨_,rfl⟩
 exact qxw):p:=h
theorem qxv {p:Prop} (h:p:=by
 have HG:=zxi hG
 exact qxF):p:=h
theorem qvF {p:Prop} (h:p:=by
 obtain⟨j,lo,hi,rfl,rfl,rfl,hj1,hj2,hok,rfl⟩:=hrel
 by_cases hjn:j≤3
 · have hjn2:(j:Int)≤3:=by omega
   exact qwO
 · have hj4:j=4:=by omega
   subst hj4
   have HW:=zxi (show qW (s.data.toList.drop k)=4 by rw[HV.out,hok];rfl)
   clear hok
   exact qio):p:=h
theorem qxQ {p:Prop} (h:p:=by
 go_wp2_with fail
 exact qxi):p:=h
theorem qvy {p:Prop} (h:p:=by
 have q24:(r.kind == 24)=false:=by simp[hrk]
 have q25:(r.kind == 25)=false:=by simp[hrk]
 have q33:(r.kind == 33)=false:=by simp[hrk]
 have q26:(r.kind == 26)=false:=by simp[hrk]
 have q32:(r.kind == 32)=false:=by simp[hrk]
 have q27:(r.kind == 27)=false:=by simp[hrk]
 have q28:(r.kind == 28)=false:=by simp[hrk]
 clear hkd hrk hG hm hc hG0 hm0 g0 g1 g2 g3 hname
 show Calls Tryz.prog 112 #[r.val,.pointer (some ⟨b0,0,none⟩),.pointer (some ⟨b1,0,none⟩),.pointer (some ⟨b2,0,none⟩),.pointer (some ⟨b3,0,none⟩)] w _
 unfold RN.val at HS ⊢
 cases Bt with
 | true =>
  go_enter Tryz.func112,Tryz.ntmps112
  exact quF
 | false =>
  go_enter Tryz.func112,Tryz.ntmps112
  exact quF):p:=h
theorem qxX {p:Prop} (h:p:=by
 go_enter Tryz.func112,Tryz.ntmps112
 exact quF):p:=h
theorem qe1 {p:Prop} (h:p:=by
 refine wpAnyH_done (by kernel_rfl) ?_ _
 have HE:=qa HB.out hHeld.1
 clear hHeld
 go_wp2_with fail
 go_ret
 exact⟨qi (by simp[*]),HE⟩):p:=h
theorem qxR {p:Prop} (h:p:=by
 have hjn2:(j:Int)≤3:=by omega
 exact qwO):p:=h
theorem qxT {p:Prop} (h:p:=by
 go_wp2_with fail
 exact qxG):p:=h
theorem qxO {p:Prop} (h:p:=by
 go_wp2_with fail
 exact qo8):p:=h
theorem qwt {p:Prop} (h:p:=by
 refine AllReadyH.cons rfl (fun KK hKK=>?_) AllReadyH.nil
 go_simp
 refine hKK.out _ _ (by(try dsimp only);go_keep) (fun hHeld2=>?_)
 clear hKK KK hHeld
 rename _=>hHeld
 refine wpAnyH_ready (rs:=[3]) (by kernel_rfl) zxs ?_
 refine AllReadyH.cons rfl (fun KK hKK=>?_) AllReadyH.nil
 (refine qba (cs:=tkC) (by rfl) _ _ _ (by rfl) 128 i32' _ 40 Tryz.underlying125 hi32 hz0 hz1 hz2 rfl zxo qai qcI _ w.heap.size W5.heap.size v0 acc ⟨K,X,k,m⟩ _ (0,0) (by rfl) (by rfl) (by rfl) (by exact qG (w:=W5) rfl) (Own.alloc HO5.out _) (by unfold maxLen;omega) zxo (by show w.heap.size≤(W5.alloc _).heap.size;rw[World.size_alloc];have h9:w.heap.size≤W5.heap.size:=hs5;omega) (W5.heap.size+1) zxs ?_;intro gg cc w6 hown6 hg6 hat6 hlt6;have hblk:∀ b,b<W5.heap.size→v0.ownBlock≠some b→w6.heap[b]?=W5.heap[b]?:=(fun b hb hn=>(hg6.block b (by show b<(W5.alloc _).heap.size;rw[World.size_alloc];have h9:b<W5.heap.size:=hb;omega) (fun e=>hn e.symm)).trans (Go.heap_alloc_old W5 _ hb));have hbel:Below w.heap.size w w6:=(by first | exact(HS5.out.below.alloc HS5.out.below.size _).drew.grown hg6 (by show w.heap.size≤(W5.alloc _).heap.size;rw[World.size_alloc];have h9:w.heap.size≤W5.heap.size:=hs5;omega) (fun q hq=>(Own.lt HO5.out q hq).1) | exact(HS5.out.below.alloc HS5.out.below.size _).grown hg6 (by show w.heap.size≤(W5.alloc _).heap.size;rw[World.size_alloc];have h9:w.heap.size≤W5.heap.size:=hs5;omega) (fun q hq=>(Own.lt HO5.out q hq).1));have HP:=zxi (HS5.out.push2 HL5.out hown6 hblk hbel hat6 (Nat.le_succ _) HV12.out.1 HV12.out.2);obtain⟨x0,x1,x2,x3,xz,xl⟩:=qq ((hblk Tb xl HTB.out).trans HT5.out);obtain⟨l0,lz,ll⟩:=jf ((hblk _ ll HV12.out.1).trans HL5.out);obtain⟨r0,r1,r2,r3,rz,rl⟩:=qq ((hblk Rb rl HV12.out.2).trans HR9.out);clear hown6 hg6 hat6 hlt6 hblk hbel)
 refine hKK.out _ _ (by(try dsimp only);go_keep) (fun hHeld2=>?_)
 clear hKK KK hHeld
 rename _=>hHeld
 refine wpAnyH_ready (rs:=[7]) (by kernel_rfl) zxs ?_
 refine AllReadyH.cons rfl (fun KK hKK=>?_) AllReadyH.nil
 go_simp
 refine hKK.out _ _ (by(try dsimp only);go_keep) (fun hHeld2=>?_)
 clear hKK KK hHeld
 rename _=>hHeld
 refine wpAnyH_ready (rs:=[8]) (by kernel_rfl) zxs ?_
 refine AllReadyH.cons rfl (fun KK hKK=>?_) AllReadyH.nil
 go_simp
 refine hKK.out _ _ (by(try dsimp only);go_keep) (fun hHeld2=>?_)
 clear hKK KK hHeld
 rename _=>hHeld
 refine wpAnyH_take (i:=9) (oi:=⟨some 8,.assign (.tmp 53),3, "lexer.go:239",_,none⟩) (v:=?_) rfl (by kernel_rfl) (by kernel_rfl) (by kernel_rfl) (fun _ _ _ h=>h) (Or.inl ⟨by rfl,?_⟩) zxa ?_
 rotate_left
 · exact qjR
 (try simp only[Act.put,List.setIfInBounds_toArray,List.set_cons_zero,List.set_cons_succ])
 refine wpAnyH_done (by kernel_rfl) ?_ _
 go_wp2_with fail
 go_roundw
 case rel =>
  refine⟨m,acc++[⟨K,X,k,m⟩],some ⟨K,X,k,m⟩,by omega,by go_num,by simp;omega,?_,HP.out.setLast (k:=K) (t:=qn X) (a:=k) (b:=m) (qpA HEN.out hK HN.out HT1.out)⟩
  have htk:qrS eFv s.data.toList k=⟨K,X,k,m⟩:=by unfold qrS;rw[hK,HN.out,← HT1.out,hm]
  rw[← htk,← hm,HW.out,HN.out]
 case measure=>simp only[intOf];omega):p:=h
theorem qj3 {p:Prop} (h:p:=by
 rw[hv];clear hv
 rw[h] at HL
 clear h h5 hl
 unfold RN.val
 go_enter Tryz.func45,Tryz.ntmps45
 go_wp2_with (go_at_call 62;refine(HL.out _).mono ?_;rintro e w2 ⟨rfl,hb2⟩)
 have HB:=zxi (qa (Below.alloc (Below.refl w.heap.size w) zxn _) hb2:Below w.heap.size w w2)
 all_goals (go_ret2;exact ro .of2 (by repeat (first | exact HB.out | apply zA)))):p:=h
theorem qpH {p:Prop} (h:p:=by
 refine zHD HKP fun hHeld=>?_
 refine zTk 0 (h:=?_)
 refine zTk 1 (h:=?_)
 refine zTk 2 (h:=?_)
 refine zTk 3 (h:=?_)
 refine zTk 4 (h:=?_)
 refine zTk 5 (h:=?_)
 refine zTk 6 (h:=?_)
 refine zTk 7 (h:=?_)
 refine zTk 8 (h:=?_)
 refine zTk 9 (h:=?_)
 refine zTn 10 (h:=?_)
 refine zTn 11 (h:=?_)
 refine zTn 12 (h:=?_)
 refine zTn 13 (h:=?_)
 refine zTk 14 (h:=?_)
 refine zTk 15 (h:=?_)
 refine zTk 16 (h:=?_)
 refine wpAnyH_done (by kernel_rfl) ?_ _
 go_wp2_with fail
 go_ret2
 exact qid):p:=h
theorem qx6 {p:Prop} (h:p:=by
 obtain rfl:j=s.size:=by omega
 exact qxf):p:=h
theorem qx3 {p:Prop} (h:p:=by
 go_wp2_with fail
 exact qq8):p:=h
theorem qwZ {p:Prop} (h:p:=by
 obtain rfl:X=V:=by rw[← HX.out,← HV.out,List.take_of_length_le (Nat.le_of_eq hsz)]
 clear hlt
 by_cases hv0:X=0
 · exact qv1
 · have g1:=qcD hv0
   exact qw6):p:=h
theorem qx8 {p:Prop} (h:p:=by
 have g1:=qcD hv0
 exact qw6):p:=h
theorem qxF {p:Prop} (h:p:=by
 clear hG
 exact qxk):p:=h
theorem qw2 {p:Prop} (h:p:=by
 have HXX:=zxi ((HGET.out i hlt).trans (congrArg some hx))
 have hcd:=HDIG.out x (List.mem_of_getElem? HXX.out)
 have hcc:48≤x.toNat∧x.toNat≤57:=by simpa[qf] using hcd
 obtain⟨k,hk⟩:∃ k,x.toNat=48+k:=⟨x.toNat-48,by omega⟩
 have hk9:k≤9:=by omega
 have HN:=zxi (show qM 0 (ALL.data.toList.take (i+1))=X*10+k by rw[qeb _ _ HXX.out,HX.out,hk];omega)
 have hKK:SMx (k:Int) k:=⟨rfl,by omega⟩
 have HL2:=zxi (qcZ X 10)
 have HL10:=zxi (jn 4 10 zxd)
 have HLK:=zxi (jn 4 k zxo)
 have l1:(i:Int)<(ALL.size:Int):=by omega
 have l2:(0:Int)≤(i:Int):=by omega
 have l3:IntKind.u8.wrap ((x.toNat:Int)-48)=(k:Int):=by rw[hk];simp[IntKind.wrap,IntKind.bits,IntKind.signed];omega
 have l4:IntKind.u64.wrap (k:Int)=(k:Int):=by simp[IntKind.wrap,IntKind.bits,IntKind.signed];omega
 clear hcd hcc hk
 go_wp2_with fail
 go_region_with (first | (go_at_call 147;refine(HOS.out _ _ zxa _).mono ?_;rintro e w1 ⟨⟨B,cb,rfl,_,hrB⟩,hbB⟩;first | (have HRB:Hid (RowOf uc 1 _ _ _ (qC 10)):=zxi hrB;have HBB:=zxi hbB;clear hrB hbB) | (have HRD:=zxi hrB;have HBD:=zxi hbB;clear hrB hbB)) | (go_at_call 146;refine(Je X 10 _ _ _ _ _ (by have:=HLi.out;omega) (by have:=HL10.out;omega) (by first | exact Qg HBB.out HR.out | exact Qg HBD.out (Qg HBB.out HR.out) | exact Qg HBB.out (Qg HBD.out HR.out)) (by first | exact HRB.out | exact Qg HBD.out HRB.out)).mono ?_;rintro e w3 ⟨⟨E,ce,rfl,_,hrE⟩,hbE⟩;have HRE:=zxi hrE;have HBE:=zxi hbE;clear hrE hbE) | (go_at_call 145;refine(qot (X*10) k _ _ _ _ _ (by have h1:=HLi.out;have h2:=HL10.out;have h3:=HL2.out;omega) (by have:=HLK.out;omega) (by first | exact HRE.out | exact Qg HBD.out HRE.out) (by first | exact HRD.out | exact Qg HBE.out HRD.out | exact Qg HBE.out (Qg HBB.out HRD.out))).mono ?_;rintro e w4 ⟨⟨F,cf,rfl,hcf,hrF⟩,hbF⟩;have HRF:=zxi hrF;have HBF:=zxi hbF;clear hrF hbF))
 all_goals
  have HZ:Hid (Below w.heap.size w w4):=zxi (by first | exact qa (qa (qa (qa HB.out (qcW HBB.out)) HBE.out) HBD.out) HBF.out | exact qa (qa (qa (qa HB.out (qcW HBB.out)) HBD.out) HBE.out) HBF.out | exact qa (qa (qa (qa HB.out (qcW HBD.out)) HBB.out) HBE.out) HBF.out)
  clear HBB HBE HBD HBF HRB HRD HRE
  go_wp2_with fail
  refine⟨⟨i+1,cf,F,by rw[HN.out],by go_num,by omega,by rw[HN.out];exact HRF.out,HZ.out⟩,by simp[intOf];omega⟩):p:=h
theorem qwP {p:Prop} (h:p:=by
 rw[qe9 H46.out hz'] at hst
 have HST:=zxi hst
 have hN60:N<800:=by omega
 have g5:(N:Int)<800:=by omega
 have g6:(0:Int)≤(N:Int):=by omega
 have q2:=HM.out.thaw N
 obtain⟨z,hzc⟩:∃ z,wr.cell? ⟨b,N,none⟩=some (.int .u8 (z:Nat)):=by
  obtain⟨z,hzc⟩:∃ z,cc[N]?=some z:=⟨_,List.getElem?_eq_getElem (show N<cc.length by omega)⟩
  exact⟨z,HM.out.at_ hzc⟩
 have HMS:=zxi (show Dcm ((wr.setCell ⟨b,N,none⟩ (.int .u8 (c.toNat:Int))).drew) b (cc.set N (48+(c.toNat-48))) (D.length:Int) dp false false by
  have h1:=(HM.out.set N (48+(c.toNat-48)) hN60).drew
  rwa [show((48+(c.toNat-48):Nat):Int)=(c.toNat:Int) by omega] at h1)
 have HHS:=zxi (show Has (cc.set N (48+(c.toNat-48))) 0 (D++[c.toNat-48]) from HH.out.snoc (by rw[HN.out];omega) zxo)
 have HBS:=zxi (qv ((HB.out.setCell (p:=⟨b,N,none⟩) zxn (Value.int .u8 (c.toNat:Int)))) 1)
 have c800:b=b∧¬ N=800:=⟨rfl,by omega⟩
 have hN8:¬ N=800:=by omega
 have hks0:(0:Int)≤(k:Int):=by omega
 by_cases hz48:c.toNat=48
 · have k5:((c.toNat:Int) == 48)=true:=by rw[beq_iff_eq];omega
   have k6:((N:Int) == 0)=false:=by rw[beq_eq_false_iff_ne];omega
   clear hst hcl hz hz' c800 hz48
   go_wp2_with fail
   go_region
   exact qmW
 · have k5:((c.toNat:Int) == 48)=false:=by rw[beq_eq_false_iff_ne];omega
   clear hst hcl hz hz' c800
   go_wp2_with fail
   go_region
   exact qmW):p:=h
theorem qwj {p:Prop} (h:p:=by
 have HE:=zxi he
 have HDS:=zxi hds
 have HG:=zxi hg
 clear h hget hc0 hd0 hz he hds hg
 go_enter Tryz.func213,Tryz.ntmps213
 go_wp2_with (go_at_call 204;refine(HL46.out _).mono ?_;rintro e wx ⟨rfl,rfl⟩)
 go_step3
 go_wp2_with (go_at_call 204;refine(HL46.out _).mono ?_;rintro e wx ⟨rfl,rfl⟩)
 go_step3
 go_wp2_with (go_at_call 204;refine(HL46.out _).mono ?_;rintro e wx ⟨rfl,rfl⟩)
 go_loop [2,5,7,9,13,14,15,16,17,18] (fun mant trunc i und dot dig nd ndm dp _=>∃ k:Nat,k≤P∧i = .int .i64 k∧und = .bool false∧mant = .int .u64 (je s.data.toList k).mant∧trunc = .bool (je s.data.toList k).trunc∧dot = .bool (je s.data.toList k).dot∧dig = .bool (je s.data.toList k).dig∧nd = .int .i64 (je s.data.toList k).nd∧ndm = .int .i64 (je s.data.toList k).ndm∧dp = .int .i64 (je s.data.toList k).dp)
  (fun _ _ i _ _ _ _ _ _ _=>P-(intOf i).toNat)
 case atStart=>exact⟨0,Nat.zero_le _,rfl,rfl,rfl,rfl,rfl,rfl,rfl,rfl,rfl⟩
 case round =>
  obtain⟨k,hk,rfl,rfl,rfl,rfl,rfl,rfl,rfl,rfl,rfl⟩:=hrel
  exact qrp):p:=h
theorem qxY {p:Prop} (h:p:=by
 obtain⟨k,hk,rfl,rfl,rfl,rfl,rfl,rfl,rfl,rfl,rfl⟩:=hrel
 exact qrp):p:=h
theorem qwK {p:Prop} (h:p:=by
 have k1:(48:Int)≤(c.toNat:Int):=by simp[qf] at hdg;omega
 have k2:(c.toNat:Int)≤57:=by simp[qf] at hdg;omega
 have k3:((c.toNat:Int) == 95)=false:=by simp;omega
 have k4:((c.toNat:Int) == 46)=false:=by simp;omega
 have H46:=zxi h46
 have HCN:=zxi (fun e:c.toNat=48=>(UInt8.toNat_inj.1 e:c=48))
 clear h46 hdg
 have hcv:(((c.toNat-48:Nat)):Int)=(c.toNat:Int)-48:=by omega
 by_cases h48:c.toNat=48
 · have k5:((c.toNat:Int) == 48)=true:=by simp;omega
   have k5n:((c.toNat:Int) != 48)=false:=by simp;omega
   exact qwq
 · have k5:((c.toNat:Int) == 48)=false:=by simp;omega
   have k5n:((c.toNat:Int) != 48)=true:=by simp;omega
   exact qsV):p:=h
theorem qxo {p:Prop} (h:p:=by
 have k5n:((c.toNat:Int) != 48)=false:=by simp;omega
 exact qwq):p:=h
theorem qxL {p:Prop} (h:p:=by
 obtain rfl:k=P:=by omega
 exact qwi):p:=h
theorem qw1 {p:Prop} (h:p:=by
 go_simp
 refine zKK hKK HKP fun hHeld2=>?_;clear hKK KK hHeld;rename _=>hHeld
 refine zRd 2 (h:=fun KK hKK=>?_)
 go_simp
 refine zKK hKK HKP fun hHeld2=>?_;clear hKK KK hHeld;rename _=>hHeld
 refine zTk 23 (h:=?_)
 refine zTk 24 (h:=?_)
 refine wpAnyH_done (by kernel_rfl) ?_ _
 go_wp2_with fail
 all_goals (go_ret2;exact ro .of2 (by first | exact qa HB.out (by repeat (first | exact zR _ | apply zA | apply zD))))):p:=h
theorem qxx {p:Prop} (h:p:=by
 by_cases hm:ndm<19
 · have hm18:=gm18 hm
   rw[qa2 H46.out (fun e=>hnd e.2) hm] at hst
   have HST:=zxi hst
   have k7:(ndm:Int)<19:=by omega
   have HCV:=zxi hcv
   clear hst hnd hm gm18 hcv h48
   exact qto
 · rw[Jc H46.out (fun e=>hnd e.2) hm] at hst
   have HST:=zxi hst
   have k7:¬ (ndm:Int)<19:=by omega
   have HTR:=zxi (show(trunc||decide (c≠48))=trunc by rw[HCN.out h48];simp)
   clear hst hnd hm gm18 hcv h48
   go_wp2_with fail
   exact qo8):p:=h
theorem qwF {p:Prop} (h:p:=by
 refine zKK hKK HKP fun hHeld2=>?_;clear hKK KK hHeld;rename _=>hHeld
 refine zRd 9 (h:=fun KK hKK=>?_)
 go_simp
 (refine(qfu _ _ _ _).mono ?_;rintro e wD ⟨⟨lbD,rfl,hD⟩,hbD⟩)
 (try go_wp2_with fail)
 refine zKK hKK HKP fun hHeld2=>?_;clear hKK KK hHeld;rename _=>hHeld
 refine zRd 10 (h:=fun KK hKK=>?_)
 go_simp
 refine zKK hKK HKP fun hHeld2=>?_;clear hKK KK hHeld;rename _=>hHeld
 refine zRd 11 (h:=fun KK hKK=>?_)
 go_simp
 (refine((zb HQ) _ _ _ _ [Qh [RR 5,RR 0],RR 6,Qh [RR 8,RR 0],RR 10] (SortsAt.lit (vs:=[_,_,_,_]) (qG zxs) ⟨HO.out _ _ _ _ [_,_] [RR 5,RR 0] _ hC zxq zxs zxh ⟨(zb H68),(zb H0),trivial⟩,(zb H70),HO.out _ _ _ _ [_,_] [RR 8,RR 0] _ hD zxq zxs zxh ⟨(zb H71),(zb H0),trivial⟩,(zb H72),trivial⟩)).mono ?_;rintro e wE ⟨he,hbE⟩;rw[hb5] at he;subst he)
 (try go_wp2_with fail)
 refine zKK hKK HKP fun hHeld2=>?_;clear hKK KK hHeld;rename _=>hHeld
 refine zTk 12 (h:=?_)
 refine zTk 13 (h:=?_)
 exact qe1):p:=h
theorem qxG {p:Prop} (h:p:=by
 go_region
 exact qmW):p:=h
theorem qwX {p:Prop} (h:p:=by
 go_enter Tryz.func130,Tryz.ntmps130
 go_wp2_with fail
 refine HRUN0.out.mono ?_
 rintro e wx ⟨rfl,rfl⟩
 go_wp2_with fail
 refine HRUN1.out.mono ?_
 rintro e wx ⟨rfl,rfl⟩
 go_wp2_with fail
 go_quiet (fail)
 go_wp2_with fail
 go_loopw [11,12] (fun pv iv wr=>∃ (i c:Nat) (A:Option Addr),pv = .slice A (qC (qM 0 (ALL.data.toList.take i))).length c∧iv = .int .i64 i∧i≤ALL.size∧RowOf uc 1 wr wr.heap.size A (qC (qM 0 (ALL.data.toList.take i)))∧Below w.heap.size w wr) (fun _ iv _=>ALL.size-(intOf iv).toNat)
 case atStart =>exact qre
 case round =>
  obtain⟨i,c,A,rfl,rfl,hi,hr,hb⟩:=hrel
  exact qtu):p:=h
theorem qww {p:Prop} (h:p:=by
 have HE:=zxi he
 have HDS:=zxi hds
 have HG:=zxi hg
 clear h hget hc0 hd0 hz he hds hg
 go_enter Tryz.func213,Tryz.ntmps213
 go_wp2_with (go_at_call 204;refine(HL46.out _).mono ?_;rintro e wx ⟨rfl,rfl⟩)
 go_step3
 go_wp2_with (go_at_call 204;refine(HL46.out _).mono ?_;rintro e wx ⟨rfl,rfl⟩)
 go_step3
 go_wp2_with (go_at_call 204;refine(HL46.out _).mono ?_;rintro e wx ⟨rfl,rfl⟩)
 go_loop [2,5,7,9,13,14,15,16,17,18] (fun mant trunc i und dot dig nd ndm dp _=>∃ k:Nat,k≤P∧i = .int .i64 k∧und = .bool false∧mant = .int .u64 (je s.data.toList k).mant∧trunc = .bool (je s.data.toList k).trunc∧dot = .bool (je s.data.toList k).dot∧dig = .bool (je s.data.toList k).dig∧nd = .int .i64 (je s.data.toList k).nd∧ndm = .int .i64 (je s.data.toList k).ndm∧dp = .int .i64 (je s.data.toList k).dp)
  (fun _ _ i _ _ _ _ _ _ _=>P-(intOf i).toNat)
 case atStart=>exact⟨0,Nat.zero_le _,rfl,rfl,rfl,rfl,rfl,rfl,rfl,rfl,rfl⟩
 case round =>
  obtain⟨k,hk,rfl,rfl,rfl,rfl,rfl,rfl,rfl,rfl,rfl⟩:=hrel
  exact qwy):p:=h
theorem qwE {p:Prop} (h:p:=by
 clear h hget hc0 hd0 hz
 go_enter Tryz.func213,Tryz.ntmps213
 go_wp2_with (go_at_call 204;refine(HL46.out _).mono ?_;rintro e wx ⟨rfl,rfl⟩)
 go_step3
 go_wp2_with (go_at_call 204;refine(HL46.out _).mono ?_;rintro e wx ⟨rfl,rfl⟩)
 go_step3
 go_wp2_with (go_at_call 204;refine(HL46.out _).mono ?_;rintro e wx ⟨rfl,rfl⟩)
 go_loop [2,5,7,9,13,14,15,16,17,18] (fun mant trunc i und dot dig nd ndm dp _=>∃ k:Nat,k≤P∧i = .int .i64 k∧und = .bool false∧mant = .int .u64 (je s.data.toList k).mant∧trunc = .bool (je s.data.toList k).trunc∧dot = .bool (je s.data.toList k).dot∧dig = .bool (je s.data.toList k).dig∧nd = .int .i64 (je s.data.toList k).nd∧ndm = .int .i64 (je s.data.toList k).ndm∧dp = .int .i64 (je s.data.toList k).dp)
  (fun _ _ i _ _ _ _ _ _ _=>P-(intOf i).toNat)
 case atStart=>exact⟨0,Nat.zero_le _,rfl,rfl,rfl,rfl,rfl,rfl,rfl,rfl,rfl⟩
 case round =>
  obtain⟨k,hk,rfl,rfl,rfl,rfl,rfl,rfl,rfl,rfl,rfl⟩:=hrel
  have hok:=HOK.out k hk
  have g1:=hok.ndm
  have g2:=hok.le
  have g3:=hok.nd
  have g4:=hok.dp0
  have g5:=hok.dp1
  have gm:=hok.lt
  have gm18:=hok.lt18
  have hk60:k≤60:=by omega
  by_cases hlt:k<P
  · exact zz0
  · obtain rfl:k=P:=by omega
    have t1:=H.out.dot
    have t2:=H.out.dig
    clear hok hk hlt gm18
    obtain⟨σ,hσ⟩:∃ σ,je s.data.toList k=σ:=⟨_,rfl⟩
    rw[hσ] at t1 t2 g1 g2 g3 g4 g5 gm ⊢
    obtain⟨mant,nd,ndm,dp,dot,dig,trunc⟩:=σ
    dsimp only at t1 t2 g1 g2 g3 g4 g5 gm
    subst t1 t2
    have HSG:=zxi hσ
    clear hσ
    have HEX:=zxi (show ∀ x:Int,JE ⟨mant,nd,ndm,dp,true,true,trunc⟩ x=if mant=0 then 0 else dp+x-ndm from fun x=>rfl)
    subst hP
    by_cases hm0:mant=0
    · have q1:((mant:Int) != 0)=false:=by simp;omega
      go_wp2_with fail
      go_outline
      first | rw[Exit.noGoto_ret] | skip
      exact qv6
    · have q1:((mant:Int) != 0)=true:=by simp;omega
      go_wp2_with fail
      go_outline
      first | rw[Exit.noGoto_ret] | skip
      exact bodyPost_ret (v:=.tuple #[.int .u64 mant,.int .i64 (dp-ndm),.bool false,.bool trunc,.bool false,.int .i64 s.size,.bool true]) (by simp[results,Tryz.results135,go_sem]<;>omega) rfl ⟨by rw[HSG.out,HEX.out,if_neg hm0,Int.add_zero],rfl⟩):p:=h
theorem qwL {p:Prop} (h:p:=by
 have HRW:=zxi (show l.take j=l from List.take_of_length_le zxo)
 rw[HRW.out] at HRA
 clear HRW
 obtain⟨A',c',rfl,hrow⟩:=HO.out.row qR
 have HRW:=zxi hrow
 clear hrow
 go_wp2_with fail
 by_cases hl0:l.length=0
 · have bp:decide ((0:Int)<(l.length:Int))=false:=decide_eq_false zxo
   have HKP:=zxi (fun W' (hBW:Below wr.heap.size wr W')=>(show(zS wr w.heap.size ⟨27,f,en,a,qn n,A,l.length,cap⟩) W' from by exact qh HX.out hBW))
   refine zHD HKP fun hHeld=>?_
   refine zTk 0 (h:=?_)
   refine zTk 1 (h:=?_)
   refine zTk 2 (h:=?_)
   refine zTk 3 (h:=?_)
   refine zTk 4 (h:=?_)
   refine zTn 5 (h:=?_)
   refine zTn 6 (h:=?_)
   refine zTn 7 (h:=?_)
   refine zTk 8 (h:=?_)
   refine zTk 9 (h:=?_)
   refine zTk 10 (h:=?_)
   refine zTk 11 (h:=?_)
   refine zTk 12 (h:=?_)
   refine zTk 13 (h:=?_)
   refine zTk 14 (h:=?_)
   refine zTk 15 (h:=?_)
   refine zTk 16 (h:=?_)
   refine wpAnyH_done (by kernel_rfl) ?_ _
   go_wp2_with fail
   go_ret2
   rw[show((decide ((27:Int)≠27)&&decide ((27:Int)≠28)) || !l.isEmpty)=false by rw[List.length_eq_zero_iff.1 hl0];rfl]
   exact qid
 · have bp:decide ((0:Int)<(l.length:Int))=true:=decide_eq_true zxo
   have hpos:0<l.length:=by omega
   have bp2:decide (0<l.length)=true:=decide_eq_true hpos
   have HKP:=zxi (fun W' (hBW:Below wr.heap.size wr W')=>(show(zS wr w.heap.size ⟨27,f,en,a,qn n,A,l.length,cap⟩) W' from by exact qh HX.out hBW))
   refine zHD HKP fun hHeld=>?_
   refine zTk 0 (h:=?_)
   refine zTk 1 (h:=?_)
   refine zTk 2 (h:=?_)
   refine zTk 3 (h:=?_)
   refine zTk 4 (h:=?_)
   refine zTn 5 (h:=?_)
   refine zTn 6 (h:=?_)
   refine zTn 7 (h:=?_)
   refine zTk 8 (h:=?_)
   refine zTk 9 (h:=?_)
   refine zTk 10 (h:=?_)
   refine zTk 11 (h:=?_)
   refine zTk 12 (h:=?_)
   refine zTk 13 (h:=?_)
   refine zTk 14 (h:=?_)
   refine zTk 15 (h:=?_)
   refine zTk 16 (h:=?_)
   refine wpAnyH_done (by kernel_rfl) ?_ _
   go_wp2_with fail
   go_ret2
   rw[show((decide ((27:Int)≠27)&&decide ((27:Int)≠28)) || !l.isEmpty)=true by cases l with | nil=>exact absurd rfl hl0 | cons=>rfl]
   exact qid):p:=h
theorem qwJ {p:Prop} (h:p:=by
 have HE:=zxi he
 have HDS:=zxi hds
 clear h hget hc0 hd0 hz he hds
 go_enter Tryz.func213,Tryz.ntmps213
 go_wp2_with (go_at_call 204;refine(HL46.out _).mono ?_;rintro e wx ⟨rfl,rfl⟩)
 go_step3
 go_wp2_with (go_at_call 204;refine(HL46.out _).mono ?_;rintro e wx ⟨rfl,rfl⟩)
 go_step3
 go_wp2_with (go_at_call 204;refine(HL46.out _).mono ?_;rintro e wx ⟨rfl,rfl⟩)
 go_loop [2,5,7,9,13,14,15,16,17,18] (fun mant trunc i und dot dig nd ndm dp _=>∃ k:Nat,k≤P∧i = .int .i64 k∧und = .bool false∧mant = .int .u64 (je s.data.toList k).mant∧trunc = .bool (je s.data.toList k).trunc∧dot = .bool (je s.data.toList k).dot∧dig = .bool (je s.data.toList k).dig∧nd = .int .i64 (je s.data.toList k).nd∧ndm = .int .i64 (je s.data.toList k).ndm∧dp = .int .i64 (je s.data.toList k).dp)
  (fun _ _ i _ _ _ _ _ _ _=>P-(intOf i).toNat)
 case atStart=>exact⟨0,Nat.zero_le _,rfl,rfl,rfl,rfl,rfl,rfl,rfl,rfl,rfl⟩
 case round =>
  obtain⟨k,hk,rfl,rfl,rfl,rfl,rfl,rfl,rfl,rfl,rfl⟩:=hrel
  have hok:=HOK.out k hk
  have g1:=hok.ndm
  have g2:=hok.le
  have g3:=hok.nd
  have g4:=hok.dp0
  have g5:=hok.dp1
  have gm:=hok.lt
  have gm18:=hok.lt18
  have hk60:k≤60:=by omega
  by_cases hlt:k<P
  · exact zz0
  · obtain rfl:k=P:=by omega
    have t1:=H.out.dot
    have t2:=H.out.dig
    clear hok hk hlt gm18
    obtain⟨σ,hσ⟩:∃ σ,je s.data.toList k=σ:=⟨_,rfl⟩
    rw[hσ] at t1 t2 g1 g2 g3 g4 g5 gm ⊢
    obtain⟨mant,nd,ndm,dp,dot,dig,trunc⟩:=σ
    dsimp only at t1 t2 g1 g2 g3 g4 g5 gm
    subst t1 t2
    have HSG:=zxi hσ
    clear hσ
    have HEX:=zxi (show ∀ x:Int,JE ⟨mant,nd,ndm,dp,true,true,trunc⟩ x=if mant=0 then 0 else dp+x-ndm from fun x=>rfl)
    have e2:s[k]=101:=Option.some.inj ((HGET.out k zxo).symm.trans HE.out)
    have hks:(k:Int)<(s.size:Int):=by omega
    obtain⟨Q,hQ⟩:∃ Q,k+1=Q:=⟨_,rfl⟩
    have hQs:Q<s.size:=by omega
    obtain⟨cq,hcq⟩:∃ c,(s[Q]'hQs)=c:=⟨_,rfl⟩
    have HDQ:=zxi (HDS.out Q cq zxo ((HGET.out Q zxo).trans (congrArg some hcq)))
    have r1:¬ (cq.toNat:Int)<48:=by have:=HDQ.out;simp[qf] at this;omega
    have r2:¬ (57:Int)<(cq.toNat:Int):=by have:=HDQ.out;simp[qf] at this;omega
    have r3:((cq.toNat:Int) == 43)=false:=by simp;omega
    have r4:((cq.toNat:Int) == 45)=false:=by simp;omega
    have hQ1:(k:Int)+1=(Q:Int):=by omega
    exact zz6):p:=h
theorem qx1 {p:Prop} (h:p:=by
 have HR0:=zxi (show RES = .tuple #[.int .u64 (G:Nat),.int .i64 0] by rw[← HRES.out,if_neg ht])
 have t1:¬ (G:Int)=9218868437227405312:=by omega
 have t2:((G:Int) == 9218868437227405312)=false:=by simpa using t1
 exact qwG):p:=h
theorem qx5 {p:Prop} (h:p:=by
 have HR0:=zxi (show RES = .tuple #[.int .u64 0,.int .i64 3] by rw[← HRES.out,if_pos ht])
 have t1:(G:Int)=9218868437227405312:=by omega
 have t2:((G:Int) == 9218868437227405312)=true:=by simpa using t1
 exact qwG):p:=h
theorem qwm {p:Prop} (h:p:=by
 have hQ2:(Q:Int)<(s.size:Int):=by omega
 have HQQ:=zxi hQ
 clear hQ
 go_wp2_with (go_at_call 204;refine(HL101.out _).mono ?_;rintro e wx ⟨rfl,rfl⟩)
 go_loopw [5,9] (fun i ev wr2=>∃ (j v:Nat),Q≤j∧j≤s.size∧i = .int .i64 j∧ev = .int .i64 v∧v<10^(j-Q)∧v=qM 0 ((s.data.toList.drop Q).take (j-Q))∧wr=wr2) (fun i _ _=>s.size-(intOf i).toNat)
 case atStart=>exact⟨Q,0,Nat.le_refl _,by omega,rfl,rfl,by simp,by simp[qM],rfl⟩
 case round =>
  obtain⟨j,v,hj1,hj2,rfl,rfl,hv1,hv2,rfl⟩:=hrel
  have HV2:=zxi hv2
  have HV1:=zxi hv1
  clear hv2
  by_cases hjs:j<s.size
  · obtain⟨c,hc⟩:∃ c,s[j]=c:=⟨_,rfl⟩
    exact qso
  · obtain rfl:j=s.size:=by omega
    have HVV:=zxi (show(qM 0 (s.data.toList.drop Q):Nat)=v by rw[HV2.out,List.take_of_length_le (by simp<;>omega)])
    have hv999:v<1000:=by
     exact qqf
    clear hv1
    go_wp2_with fail
    first | rw[Exit.noGoto_ret] | skip
    go_ret
    have hQe:=HQQ.out
    subst hQe
    refine⟨rfl,cc,?_,?_,?_⟩
    · rw[HSG.out,HVV.out]
      first | exact HM.out.setDp _ | (have h1:=HM.out.setDp (dp+v);trace_state;simpa using h1)
    · rw[HSG.out];exact HH.out
    · exact HB.out.setCell (p:=⟨b,801,none⟩) zxn _):p:=h
theorem qwp {p:Prop} (h:p:=by
 have HV2:=zxi hv2
 have HV1:=zxi hv1
 clear hv2
 by_cases hjs:j<s.size
 · obtain⟨c,hc⟩:∃ c,s[j]=c:=⟨_,rfl⟩
   have HC:=zxi ((HGET.out j hjs).trans (congrArg some hc))
   exact qq2
 · obtain rfl:j=s.size:=by omega
   have HVV:=zxi (show(qM 0 (s.data.toList.drop Q):Nat)=v by rw[HV2.out,List.take_of_length_le (by simp<;>omega)])
   exact qrI):p:=h
theorem qxt {p:Prop} (h:p:=by
 have k5n:((c.toNat:Int) != 48)=true:=by simp;omega
 exact qsV):p:=h
theorem ql4 {p:Prop} (h:p:=by
 clear ho2 hg2 hat2
 go_roundw
 case rel=>exact⟨j+1,gs++[(wr.heap.size,1)],_,by omega,by rw[List.length_append,List.length_singleton];omega,by go_num,rfl,HP.out.1,HP.out.2⟩
 case measure=>simp only[intOf];omega):p:=h
theorem qwv {p:Prop} (h:p:=by
 have hlt:(k:Int)<(s.size:Int):=by omega
 have hv:=Qb h hc
 rw[if_neg zxo,show hdC c.toNat=(2,128,191) by unfold hdC;repeat' (first | rfl | omega | split)] at hv
 have f0:¬ (c.toNat:Int)<128:=by omega
 have f1:(c.toNat:Int)≤255:=by omega
 have g0:(194:Int)≤(c.toNat:Int):=by omega
 have g1:(224:Int)≤(c.toNat:Int):=by omega
 have g2:¬ (240:Int)≤(c.toNat:Int):=by omega
 have e0:¬ (c.toNat:Int)≤223:=by omega
 have e1:(c.toNat:Int)≤239:=by omega
 have e2:(c.toNat:Int)≤244:=by omega
 have q0:((c.toNat:Int) == 224)=false:=beq_eq_false_iff_ne.2 zxo
 have q1:((c.toNat:Int) == 237)=false:=beq_eq_false_iff_ne.2 zxo
 have q2:((c.toNat:Int) == 240)=false:=beq_eq_false_iff_ne.2 zxo
 have q3:((c.toNat:Int) == 244)=false:=beq_eq_false_iff_ne.2 zxo
 obtain⟨R,hR⟩:∃ R,s.data.toList.drop (k+1)=R:=⟨_,rfl⟩
 have hRl:R.length+(k+1)=s.size:=by rw[← hR,List.length_drop];show s.size-(k+1)+(k+1)=s.size;omega
 have hget:∀ j,(hj:k+1+j<s.size)→R[j]?=some (s[k+1+j]'hj):=fun j hj=>by rw[← hR,List.getElem?_drop];exact Ql hj
 rw[hR] at hv
 by_cases hsh:s.size≤k+2
 · exact qoE
 · have hsh2:¬ (s.size:Int)≤(k:Int)+2:=by omega
   have HV:=zxi (show qW (s.data.toList.drop k)=if okC 128 191 2 R=true then 3 else 0 by rw[hv];simp)
   have HG:=zxi hget
   clear hv c1 c2 hR hget
   go_enter Tryz.func126,Tryz.ntmps126
   go_wp2_with fail
   go_loopw [5,6,9] (fun a b iv wr=>∃ j lo hi:Nat,a = .int .i64 lo∧b = .int .i64 hi∧iv = .int .i64 j∧1≤j∧j≤3∧okC 128 191 2 R=okC lo hi (3-j) (R.drop (j-1))∧wr=w) (fun _ _ iv _=>4-(intOf iv).toNat)
   case atStart=>exact⟨1,128,191,rfl,rfl,rfl,Nat.le_refl _,by omega,rfl,rfl⟩
   case round =>exact qv5):p:=h
theorem qwz {p:Prop} (h:p:=by
 go_wp2_with fail
 go_loopw [5] (fun i wr=>∃ j:Nat,j≤l.length∧i = .int .i64 j∧(∀ j' x,l[j']?=some x→j'<j→x≠s.data.toList)∧∃ q,wr=w.drewN q) (fun i _=>l.length-(intOf i).toNat)
 case atStart=>exact⟨0,Nat.zero_le _,rfl,fun j _ _ h=>absurd h (Nat.not_lt_zero _),0,rfl⟩
 case round =>
  obtain⟨j,hj,rfl,hno,q,rfl⟩:=hrel
  exact qwW):p:=h
theorem qxf {p:Prop} (h:p:=by
 have HVV:=zxi (show(qM 0 (s.data.toList.drop Q):Nat)=v by rw[HV2.out,List.take_of_length_le (by simp<;>omega)])
 exact qrI):p:=h
theorem qxu {p:Prop} (h:p:=by
 obtain⟨c,hc⟩:∃ c,s[j]=c:=⟨_,rfl⟩
 exact qso):p:=h
theorem qx2 {p:Prop} (h:p:=by
 obtain⟨i,c,A,rfl,rfl,hi,hr,hb⟩:=hrel
 exact qtu):p:=h
theorem quw {p:Prop} (h:p:=by
 go_enter Tryz.func184,Tryz.ntmps184
 go_wp2_with fail
 refine HC.out.mono ?_
 rintro e w1 ⟨rfl,nn,rfl⟩
 go_wp2_with fail
 refine(HN.out _).mono ?_
 rintro e wx ⟨rfl,hxN⟩
 subst hxN
 go_wp2_with fail
 refine(HD.out _).mono ?_
 rintro e wx ⟨rfl,hxD⟩
 subst hxD
 go_wp2_with fail
 refine(HX.out _).mono ?_
 rintro e wx ⟨rfl,hxX⟩
 subst hxX
 exact qlK):p:=h
theorem qxw {p:Prop} (h:p:=by
 have HC:=zxi ((HGET.out j hjs).trans (congrArg some hc))
 exact qq2):p:=h
theorem qwC {p:Prop} (h:p:=by
 obtain⟨u,hk,rfl,hka,rfl⟩:=hrel
 cases hat:atB qf s.data.toList u with
 | true =>
  have h1:=(JY hat).2
  have h2:=(JY hat).1
  have HC:=zxi (HD.out u zxo)
  rw[hat] at HC
  have HK:=zxi (show u+1+digN (s.data.toList.drop (u+1))=z by omega)
  have hk1:u+1≤z:=by omega
  clear hat hka h1 h2
  go_wp2_with fail
  refine(HC.out _).mono ?_
  rintro e w2 ⟨rfl,rfl⟩
  go_wp2_with fail
  go_roundw
  case rel=>exact⟨u+1,hk1,by go_num,HK.out,trivial⟩
  case measure=>simp only[intOf];omega
 | false =>
  have h1:=qan hat
  obtain rfl:u=z:=by omega
  have HCu:=zxi (HD.out u zxo)
  rw[hat] at HCu
  clear hat hka h1 hk
  go_wp2_with fail
  refine(HCu.out _).mono ?_
  rintro e w2 ⟨rfl,rfl⟩
  go_wp2_with fail
  go_ret2
  exact⟨by unfold qda;rw[HV.out.1];exact qa0 rfl (by have:=HV.out.2;have h5:=HA.out;have h6:=HB.out;have h7:=HZ.out;simp only;omega),rfl⟩):p:=h
theorem qxi {p:Prop} (h:p:=by
 go_round
 case rel=>exact⟨k+1,by omega,by go_num,rfl,by rw[HST.out];push_cast [HCV.out];first | rfl | (congr 1;omega),by rw[HST.out],by rw[HST.out],by rw[HST.out],by rw[HST.out];go_num,by rw[HST.out];go_num,by rw[HST.out]⟩
 case measure=>simp[intOf];omega):p:=h
theorem qwk {p:Prop} (h:p:=by
 have hga:s[a]'ha1=c1:=by
  exact qeZ
 have p4:¬ (a:Int)=(s.size:Int):=by omega
 have p5:((a:Int) == (s.size:Int))=false:=by simpa using p4
 have p8:(a:Int)<(s.size:Int):=by omega
 have p6:(c1.toNat:Int)=46:=by rw[h46];rfl
 have p7:((c1.toNat:Int) != 46)=false:=by rw[p6];rfl
 have HRUN1:=zxi (qV s k1 w zxo zxo)
 rw[hr1] at HRUN1
 have p10:(a:Int)+1=(k1:Int):=by omega
 have p11:(k1:Int)+(b:Int)=(k2:Int):=by omega
 have p12:(k2:Int)≤(s.size:Int):=by omega
 have p13:¬ (b:Int)=0:=by omega
 have p14:((b:Int) == 0)=false:=by simpa using p13
 have p15:(k1:Int)≤(k2:Int):=by omega
 have p16:(0:Int)≤(k1:Int):=by omega
 have HE:=zxi hE
 have q1:¬ (R.size:Int)=0:=by omega
 have q2:((R.size:Int) == 0)=false:=by simpa using q1
 have q3:¬ R=ByteArray.empty:=fun e=>by rw[e] at hR0;exact absurd hR0 (Nat.not_lt_zero _)
 have q5:¬ R.toList=[]:=by rw[ByteArray.toList_eq];intro hc;exact q3 (QE (by show R.data.toList.length=0;rw[hc];rfl))
 have q6:(!R.toList.isEmpty)=true:=by simpa using q5
 have q7:(0:Int)<(R.size:Int):=by omega
 have q8:(1:Int)≤(R.size:Int):=by omega
 obtain⟨rc,hrc⟩:∃ rc,R[0]=rc:=⟨_,rfl⟩
 rw[hrc] at hR1
 have q9:¬ (rc.toNat:Int)=101:=QW hR1
 have q10:((rc.toNat:Int) != 101)=true:=by simpa using q9
 exact qrs):p:=h
theorem qwS {p:Prop} (h:p:=by
 have hga:s[a]'ha1=c1:=by
  exact qeZ
 have p4:¬ (a:Int)=(s.size:Int):=by omega
 have p5:((a:Int) == (s.size:Int))=false:=by simpa using p4
 have p8:(a:Int)<(s.size:Int):=by omega
 have p6:(c1.toNat:Int)=46:=by rw[h46];rfl
 have p7:((c1.toNat:Int) != 46)=false:=by rw[p6];rfl
 have HRUN1:=zxi (qV s k1 w zxo zxo)
 rw[hr1] at HRUN1
 have p10:(a:Int)+1=(k1:Int):=by omega
 have p11:(k1:Int)+(b:Int)=(k2:Int):=by omega
 have p12:(k2:Int)≤(s.size:Int):=by omega
 have p13:¬ (b:Int)=0:=by omega
 have p14:((b:Int) == 0)=false:=by simpa using p13
 have p15:(k1:Int)≤(k2:Int):=by omega
 have p16:(0:Int)≤(k1:Int):=by omega
 have HE:=zxi hE
 have q1:¬ (R.size:Int)=0:=by omega
 have q2:((R.size:Int) == 0)=false:=by simpa using q1
 have q3:¬ R=ByteArray.empty:=fun e=>by rw[e] at hR0;exact absurd hR0 (Nat.not_lt_zero _)
 have q5:¬ R.toList=[]:=by rw[ByteArray.toList_eq];intro hc;exact q3 (QE (by show R.data.toList.length=0;rw[hc];rfl))
 have q6:(!R.toList.isEmpty)=true:=by simpa using q5
 have q7:(0:Int)<(R.size:Int):=by omega
 have q8:(1:Int)≤(R.size:Int):=by omega
 obtain⟨rc,hrc⟩:∃ rc,R[0]=rc:=⟨_,rfl⟩
 rw[hrc] at hR1
 have q9:(rc.toNat:Int)=101:=by rw[hR1];rfl
 have q10:((rc.toNat:Int) != 101)=false:=by rw[q9];rfl
 exact qrs):p:=h
theorem qsk {p:Prop} (h:p:=by
 unfold RN.val
 go_enter Tryz.func45,Tryz.ntmps45
 go_wp2_with (fail)
 all_goals (go_ret2;exact ro RowsM.of1)):p:=h
theorem qwU {p:Prop} (h:p:=by
 have HMU:=zxi hμ3
 have HMM:=zxi hμ
 obtain⟨G,hG⟩:∃ G:Nat,g+1=G:=⟨_,rfl⟩
 have eG:(g:Int)-1074+1075=(G:Int):=by omega
 have HG:=zxi hG
 clear hb hμ hG hμ3 hM2 hM55
 by_cases hg:2046≤g
 · obtain⟨O,hO⟩:∃ O,IntKind.u64.wrap ((G:Int)*4503599627370496)=O:=⟨_,rfl⟩
   obtain⟨O2,hO2⟩:∃ O2,IntKind.u64.wrap ((μ:Int)+O)=O2:=⟨_,rfl⟩
   have HFIN:=zxi (qlG HR4.out HMM.out hg)
   have hgt:(971:Int)<(g:Int)-1074:=by omega
   clear hg
   cases neg with
   | true =>exact qgz
   | false =>exact qf3
 · have hG2:G≤2046:=by have:=HG.out;omega
   obtain⟨O,hO⟩:∃ O,G*4503599627370496=O:=⟨_,rfl⟩
   have hO1:=qn2 hG2 hO
   obtain⟨O2,hO2⟩:∃ O2,μ+O=O2:=⟨_,rfl⟩
   have hO3:O2<9218868437227405312:=by have:=HMU.out;omega
   have hO4:IntKind.u64.wrap ((μ:Int)+(O:Int))=(O2:Int):=qcr zxo zxo
   have HFIN:=zxi (qn0 HR4.out HMM.out HMU.out hg (by rw[HG.out];exact hO) hO2)
   have hgt:¬ (971:Int)<(g:Int)-1074:=by omega
   clear hg hO hO2 hG2
   cases neg with
   | true =>
    have hz:IntKind.u64.wrap ((O2:Int)+9223372036854775808)=((O2+9223372036854775808:Nat):Int):=qcr zxo zxo
    exact qgz
   | false =>exact qf3):p:=h
theorem qvR {p:Prop} (h:p:=by
 go_enter Tryz.func171,Tryz.ntmps171
 go_wp2_with fail
 refine HD1.out.mono ?_
 rintro e w1 ⟨rfl,hb1⟩
 go_wp2_with fail
 refine(HP.out _).mono ?_
 rintro e w2 ⟨rfl,rfl⟩
 go_wp2_with fail
 refine(HD2.out _).mono ?_
 rintro e w3 ⟨rfl,hb3⟩
 go_wp2_with fail
 refine(HD2.out _).mono ?_
 rintro e w4 ⟨rfl,hb4⟩
 go_wp2_with fail
 refine(HE.out _).mono ?_
 rintro e w5 ⟨rfl,rfl⟩
 go_wp2_with fail
 refine(HM.out _).mono ?_
 rintro e w6 ⟨rfl,hb6⟩
 go_wp2_with fail
 go_ret2
 exact⟨by rw[HV.out];exact rfl,qa (qa (qa hb1 hb3) hb4) hb6⟩):p:=h
theorem qw0 {p:Prop} (h:p:=by
 obtain⟨p,hp⟩:∃ p,k+j=p:=⟨_,rfl⟩
 have hjp:k+1+(j-1)=p:=by omega
 have hps:p<s.size:=by omega
 obtain⟨x,hx⟩:∃ x,s[p]'hps=x:=⟨_,rfl⟩
 have bx0:(0:Int)≤(x.toNat:Int):=by omega
 have bx1:(x.toNat:Int)≤255:=by have:=Jl x;omega
 have hg:=HG.out (j-1) zxo
 have hg2:R[j-1]?=some x:=by rw[hg];simp only[hjp];rw[hx]
 have hd:=QB hg2
 have hkj:(k:Int)+(j:Int)=(p:Int):=by omega
 have hps2:(p:Int)<(s.size:Int):=by omega
 rw[show 3-j=(2-j)+1 by omega,hd,show j-1+1=j by omega] at hok
 simp only[okC] at hok
 by_cases x1:x.toNat<lo
 · exact qn3
 · have y1:¬ (x.toNat:Int)<(lo:Int):=by omega
   by_cases x2:hi<x.toNat
   · exact qmH
   · have y2:¬ (hi:Int)<(x.toNat:Int):=by omega
     rw[decide_eq_true (p:=lo≤x.toNat) zxo,decide_eq_true (p:=x.toNat≤hi) zxo,Bool.true_and,Bool.true_and] at hok
     have HOK:=zxi hok
     clear hok hg hg2 hd hjp hp x1 x2
     go_wp2_with fail
     go_roundw
     case rel=>exact⟨j+1,128,191,rfl,rfl,by go_num,by omega,by omega,by rw[HOK.out,show 3-(j+1)=2-j by omega,Nat.add_sub_cancel],trivial⟩
     case measure=>simp only[intOf];omega):p:=h
theorem qwO {p:Prop} (h:p:=by
 obtain⟨p,hp⟩:∃ p,k+j=p:=⟨_,rfl⟩
 have hjp:k+1+(j-1)=p:=by omega
 have hps:p<s.size:=by omega
 obtain⟨x,hx⟩:∃ x,s[p]'hps=x:=⟨_,rfl⟩
 have bx0:(0:Int)≤(x.toNat:Int):=by omega
 have bx1:(x.toNat:Int)≤255:=by have:=Jl x;omega
 have hg:=HG.out (j-1) zxo
 have hg2:R[j-1]?=some x:=by rw[hg];simp only[hjp];rw[hx]
 have hd:=QB hg2
 have hkj:(k:Int)+(j:Int)=(p:Int):=by omega
 have hps2:(p:Int)<(s.size:Int):=by omega
 rw[show 4-j=(3-j)+1 by omega,hd,show j-1+1=j by omega] at hok
 simp only[okC] at hok
 by_cases x1:x.toNat<lo
 · exact qn3
 · have y1:¬ (x.toNat:Int)<(lo:Int):=by omega
   by_cases x2:hi<x.toNat
   · exact qmH
   · have y2:¬ (hi:Int)<(x.toNat:Int):=by omega
     rw[decide_eq_true (p:=lo≤x.toNat) zxo,decide_eq_true (p:=x.toNat≤hi) zxo,Bool.true_and,Bool.true_and] at hok
     have HOK:=zxi hok
     clear hok hg hg2 hd hjp hp x1 x2
     go_wp2_with fail
     go_roundw
     case rel=>exact⟨j+1,128,191,rfl,rfl,by go_num,by omega,by omega,by rw[HOK.out,show 4-(j+1)=3-j by omega,Nat.add_sub_cancel],trivial⟩
     case measure=>simp only[intOf];omega):p:=h
theorem qxU {p:Prop} (h:p:=by
 obtain⟨j,hj,rfl,hno,q,rfl⟩:=hrel
 exact qwW):p:=h
theorem qwM {p:Prop} (h:p:=by
 clear k1
 go_enter Tryz.func144,Tryz.ntmps144
 go_wp2_with (go_at_call 143;refine HRUN.out.mono ?_;rintro e wx ⟨rfl,rfl⟩)
 go_loopw [5,6] (fun dv iv wr=>∃ i d:Nat,dv = .int .i64 d∧iv = .int .i64 i∧1≤i∧i≤s.size∧d=qM 0 ((s.data.toList.drop 1).take (i-1))∧d≤999∧w=wr) (fun _ iv _=>s.size-(intOf iv).toNat)
 case atStart=>exact⟨1,0,rfl,rfl,Nat.le_refl _,by omega,rfl,by decide,rfl⟩
 case round =>
  obtain⟨i,d,rfl,rfl,hqi,hi,hdv,hdm,rfl⟩:=hrel
  have HDV:=zxi hdv
  clear hdv
  by_cases hlt:i<s.size
  · obtain⟨x,hx⟩:∃ x,s[i]=x:=⟨_,rfl⟩
    have HX:=zxi ((HGET.out i hlt).trans (congrArg some hx))
    have hcd:=HDIG.out x (List.mem_of_getElem? (i:=i-1) (by rw[List.getElem?_drop,show 1+(i-1)=i by omega];exact HX.out))
    have hc1:48≤x.toNat∧x.toNat≤57:=by simpa[qf] using hcd
    obtain⟨k,hk⟩:∃ k,x.toNat=48+k:=⟨x.toNat-48,by omega⟩
    have hk9:k≤9:=by omega
    have hnx:qM 0 ((s.data.toList.drop 1).take (i+1-1))=d*10+k:=by rw[qac hqi HX.out,← HDV.out,hk];omega
    exact qpM
  · exact qsH):p:=h
theorem qwx {p:Prop} (h:p:=by
 obtain⟨i,d,rfl,rfl,hi,hdv,hdm,rfl⟩:=hrel
 have HDV:=zxi hdv
 clear hdv
 by_cases hlt:i<s.size
 · obtain⟨c,hc⟩:∃ c,s[i]=c:=⟨_,rfl⟩
   have HC:=zxi ((HGET.out i hlt).trans (congrArg some hc))
   have hcd:=HDIG.out c (List.mem_of_getElem? HC.out)
   have hc1:48≤c.toNat∧c.toNat≤57:=by simpa[qf] using hcd
   obtain⟨k,hk⟩:∃ k,c.toNat=48+k:=⟨c.toNat-48,by omega⟩
   have hk9:k≤9:=by omega
   have hnx:qM 0 (s.data.toList.take (i+1))=d*10+k:=by rw[qeb _ _ HC.out,← HDV.out,hk];omega
   have HN:=zxi hnx
   clear hnx hcd hc1
   have hlt2:(i:Int)<(s.size:Int):=by omega
   have hw1:(c.toNat:Int)-48=(k:Int):=by omega
   by_cases hb:d*10+k≤9223372036854775807
   · have hq:¬ (9223372036854775807-(48+(k:Int)-48))/10<(d:Int):=by omega
     go_wp2_with fail
     refine⟨⟨i+1,d*10+k,by go_num,by go_num,by omega,HN.out.symm,hb,by first | rfl | trivial⟩,by simp[intOf];omega⟩
   · have hq:(9223372036854775807-(48+(k:Int)-48))/10<(d:Int):=by omega
     have hbig:¬ qM 0 s.data.toList≤9223372036854775807:=by
      have:=qc9 s.data.toList (i+1)
      rw[HN.out] at this
      omega
     have HB:=zxi hbig
     clear hbig
     go_wp2_with fail
     go_ret2
     rw[← HR.out,if_neg HB.out]
     exact⟨rfl,rfl⟩
 · obtain rfl:i=s.size:=by omega
   have hv:qM 0 s.data.toList=d:=by rw[HDV.out,← hsz,List.take_length]
   have hR2:R=Value.tuple #[.int .i64 (d:Nat),.int .i64 0]:=by rw[← HR.out,hv,if_pos hdm]
   have HR2:=zxi hR2
   clear hv hR2
   go_wp2_with fail
   go_ret2
   rw[HR2.out]
   exact⟨rfl,rfl⟩):p:=h
theorem qwY {p:Prop} (h:p:=by
 go_wp2_with fail
 refine(HNK.out _).mono ?_
 rintro e w3 ⟨⟨k',tx,a,b,rfl,hok⟩,hb3⟩
 obtain⟨rfl,htx,rfl,rfl⟩:=hok trivial
 have HO3:=zxi ((HO.out.below hb3).alloc (.cells #[.int .i64 (k':Int),.string tx,.int .i64 (a:Int),.int .i64 (b:Int)] 83))
 have HB3:=zxi ((HBE.out.trans (hb3.mono HBE.out.size)).alloc (Nat.le_trans HBE.out.size hb3.size) (.cells #[.int .i64 (k':Int),.string tx,.int .i64 (a:Int),.int .i64 (b:Int)] 83))
 have hs3:=hb3.size
 have HTX:=zxi htx
 clear hok hb3 htx
 unfold qcm
 go_wp2_with (at_builtin;go_must (refine qo (cs:=tkC) rfl _ _ 79 rfl 83 i31' _ 40 Tryz.underlying79 hi31 hz0 hz1 hz2 rfl zxd qai qcI (w3.alloc (.cells #[.int .i64 (k':Int),.string tx,.int .i64 (a:Int),.int .i64 (b:Int)] 83)) w1.heap.size _ _ acc ⟨k',tx.data.toList,a,b⟩ _ (qtW k' tx a b) (by rfl) (by rfl) (by rw[World.size_alloc]) HO3.out (by unfold maxLen;omega) zxo HB3.out.size ?_);intro v' w4 hown' hgrow hat;obtain⟨ao4,ln4,cp4,rfl⟩:=Qv hown';have HO4:=zxi hown';have HB4:=zxi (qI HB3.out HO3.out HB3.out.size hgrow);obtain⟨d0,d1,d2,d3,dz,dl⟩:=qq ((hgrow.block w3.heap.size (by rw[World.size_alloc];omega) (fun e=>by have:=(HO.out.lt _ e.symm).2;omega)).trans (heap_alloc_new w3 _));clear hown' hgrow hat)
 go_roundw
 case rel=>exact⟨b,many+1,acc++[⟨k',tx.data.toList,a,b⟩],some ⟨k',tx.data.toList,a,b⟩,hzl,rfl,by go_num,qhN _ HLN.out,HO4.out,by rw[HV.out,HTX.out],HB4.out,by simp;omega,by omega⟩
 case measure=>simp only[intOf];omega):p:=h
theorem qxK {p:Prop} (h:p:=by
 obtain rfl:i=ALL.size:=by omega
 exact qw3):p:=h
theorem qx4 {p:Prop} (h:p:=by
 obtain⟨k,hk,rfl,rfl,rfl,rfl,rfl,rfl,rfl,rfl,rfl⟩:=hrel
 exact qwy):p:=h
theorem qxJ {p:Prop} (h:p:=by
 first | rw[Exit.noGoto_ret] | skip
 exact qv6):p:=h
theorem qwN {p:Prop} (h:p:=by
 clear k1
 have t1:¬ (T.size:Int)=0:=by omega
 have t2:((T.size:Int) == 0)=false:=by simpa using t1
 have t3:¬ T=ByteArray.empty:=fun e=>by rw[e] at hz;exact absurd hz (Nat.not_lt_zero _)
 have t4:(0:Int)<(T.size:Int):=by omega
 have t5:¬ T.toList=[]:=by rw[ByteArray.toList_eq];intro hc;exact t3 (QE (by show T.data.toList.length=0;rw[hc];rfl))
 have t6:(!T.toList.isEmpty)=true:=by simpa using t5
 have x1:¬ (E.size:Int)=0:=by omega
 have x2:((E.size:Int) == 0)=false:=by simpa using x1
 have x3:¬ E=ByteArray.empty:=fun e=>by rw[e] at hE0;exact absurd hE0 (Nat.not_lt_zero _)
 have x5:¬ E.toList=[]:=by rw[ByteArray.toList_eq];intro hc;exact x3 (QE (by show E.data.toList.length=0;rw[hc];rfl))
 have x6:(!E.toList.isEmpty)=true:=by simpa using x5
 have y1:(E.size:Int)≤3:=by omega
 have y2:¬ (d:Int)=(E.size:Int):=by omega
 have y3:((d:Int) == (E.size:Int))=false:=by simpa using y2
 have HE:=zxi (fun W=>qE E W zxo)
 exact qrn):p:=h
theorem qwn {p:Prop} (h:p:=by
 clear hR hN htk hr hn hsz hnm hu
 go_enter Tryz.func157,Tryz.ntmps157
 go_wp2_with (first | (go_at_call 88;refine(HS.out _).mono ?_;rintro e w1 ⟨rfl,hb1⟩;have HA1:=zxi (qe HA0.out hb1);have HB1:=zxi (HB0.out.trans (hb1.mono HB0.out.size));clear hb1) | (go_at_call 89;refine(HR.out _).mono ?_;rintro e w2 ⟨rfl,hb2⟩;obtain⟨a0,a1,a2,a3,az,al⟩:=qq (qe (js HA1.out) hb2);obtain⟨b0,b1,b2,b3,bz,bl⟩:=qq (qe (jt w1 _ _ _ _) hb2);have hne:w.heap.size≠w1.heap.size:=(by have:=HB1.out.size;have:=(Array.getElem?_eq_some_iff.1 HA1.out).1;omega);have HA2:=zxi (qe (js (o':=.cells #[.int .i64 1,.string (s.extract 0 n),.int .i64 0,.int .i64 (n:Int)] 128) HA1.out) hb2);have HT2:=zxi (qe (jt w1 (.int .i64 1) (.string (s.extract 0 n)) (.int .i64 0) (.int .i64 (n:Int))) hb2);have HB2:=zxi ((HB1.out.alloc HB1.out.size (.cells #[.int .i64 1,.string (s.extract 0 n),.int .i64 0,.int .i64 (n:Int)] 128)).trans (hb2.mono (Nat.le_trans HB1.out.size (by rw[World.size_alloc];omega))));clear hb2) | (go_at_call 73;refine(HN.out _).mono ?_;rintro e w3 ⟨rfl,hb3⟩;obtain⟨a0,a1,a2,a3,az,al⟩:=qq (qe HA2.out hb3);obtain⟨b0,b1,b2,b3,bz,bl⟩:=qq (qe HT2.out hb3);have HA3:=zxi (qe HA2.out hb3);have HB3:=zxi (HB2.out.trans (hb3.mono HB2.out.size));clear hb3))
 exact qiM):p:=h
theorem qha {p:Prop} (h:p:=by
 have h:=List.getElem?_eq_getElem (l:=s.data.toList) (i:=0) (by show 0<s.size;omega)
 rw[hc0] at h
 exact(Option.some.inj h).symm):p:=h
theorem qwi {p:Prop} (h:p:=by
 have t1:=H.out.dot
 have t2:=H.out.dig
 clear hok hk hlt gm18
 obtain⟨σ,hσ⟩:∃ σ,je s.data.toList k=σ:=⟨_,rfl⟩
 rw[hσ] at t1 t2 g1 g2 g3 g4 g5 gm ⊢
 obtain⟨mant,nd,ndm,dp,dot,dig,trunc⟩:=σ
 dsimp only at t1 t2 g1 g2 g3 g4 g5 gm
 subst t1 t2
 have HSG:=zxi hσ
 clear hσ
 have HEX:=zxi (show ∀ x:Int,JE ⟨mant,nd,ndm,dp,true,true,trunc⟩ x=if mant=0 then 0 else dp+x-ndm from fun x=>rfl)
 have e2:s[k]=101:=Option.some.inj ((HGET.out k zxo).symm.trans HE.out)
 have hks:(k:Int)<(s.size:Int):=by omega
 have e3:s[k+1]=45:=Option.some.inj ((HGET.out (k+1) zxo).symm.trans HG.out)
 have hks2:(k:Int)+1<(s.size:Int):=by omega
 obtain⟨Q,hQ⟩:∃ Q,k+2=Q:=⟨_,rfl⟩
 have hQs:Q<s.size:=by omega
 obtain⟨cq,hcq⟩:∃ c,(s[Q]'hQs)=c:=⟨_,rfl⟩
 have HDQ:=zxi (HDS.out Q cq zxo ((HGET.out Q zxo).trans (congrArg some hcq)))
 have r1:¬ (cq.toNat:Int)<48:=by have:=HDQ.out;simp[qf] at this;omega
 have r2:¬ (57:Int)<(cq.toNat:Int):=by have:=HDQ.out;simp[qf] at this;omega
 have r3:((cq.toNat:Int) == 43)=false:=by simp;omega
 have r4:((cq.toNat:Int) == 45)=false:=by simp;omega
 have hQ1:(k:Int)+1+1=(Q:Int):=by omega
 have hQ2:(Q:Int)<(s.size:Int):=by omega
 have HQQ:=zxi hQ
 clear hQ
 go_wp2_with (go_at_call 204;refine(HL101.out _).mono ?_;rintro e wx ⟨rfl,rfl⟩)
 go_loop [7,9,20] (fun i und ev=>∃ (j v:Nat),Q≤j∧j≤s.size∧i = .int .i64 j∧und = .bool false∧ev = .int .i64 v∧v<10^(j-Q)∧v=qM 0 ((s.data.toList.drop Q).take (j-Q))) (fun i _ _=>s.size-(intOf i).toNat)
 case atStart=>exact⟨Q,0,Nat.le_refl _,by omega,rfl,rfl,rfl,by simp,by simp[qM]⟩
 case round =>
  obtain⟨j,v,hj1,hj2,rfl,rfl,rfl,hv1,hv2⟩:=hrel
  exact qpP):p:=h
theorem qw6 {p:Prop} (h:p:=by
 have g2:(((qC X).length:Int) == 0)=false:=by simpa using g1
 have HV0:=zxi hv0
 clear hv0
 go_wp2_with fail
 refine(HO1.out _).mono ?_
 rintro e w1 ⟨⟨B,cb,rfl,_,hrB⟩,hbB⟩
 have HRB:=zxi hrB
 have HBB:=zxi (qa HB.out hbB)
 have HR1:=zxi (Qg hbB HR.out)
 clear hrB hbB
 have HX10:=zxi (jn 4 1 zxd)
 obtain⟨G,hG⟩:∃ G,jW X (xe-(b:Int)) K=G:=⟨_,rfl⟩
 rw[hG] at HRES
 by_cases hxb:(b:Int)≤xe
 · obtain⟨d,hd⟩:∃ d:Nat,xe-(b:Int)=(d:Int):=⟨(xe-(b:Int)).toNat,by omega⟩
   have HTL:=zxi (qcQ d (by have:=HB0.out;omega))
   have HP:=zxi (qbH d w1 (by have:=HB0.out;omega))
   go_wp2_with fail
   refine HP.out.mono ?_
   rintro e w2 ⟨⟨C,cc,rfl,_,hrC⟩,hbC⟩
   have HRC:=zxi hrC
   have HBC:=zxi hbC
   clear hrC hbC
   have HT:=zxi (Je X (10^d) A C c cc w2 (by have:=HLi.out;omega) (by have:=HTL.out;omega) (Qg HBC.out HR1.out) HRC.out)
   go_wp2_with fail
   refine HT.out.mono ?_
   rintro e w3 ⟨⟨E,ce,rfl,_,hrE⟩,hbE⟩
   have HRO:=qbm false (X*10^d) 1 E B ce cb w3 (Nat.mul_ne_zero HV0.out (Nat.ne_of_gt (Nat.pow_pos zxd))) zxd (by have h1:=qcZ X (10^d);have h2:=HTL.out;have h3:=HLi.out;omega) (by have:=HX10.out;omega) hrE (Qg hbE (Qg HBC.out HRB.out))
   rw[qiP X d (xe-(b:Int)) K HK.out hd,hG] at HRO
   replace HRO:=zxi HRO
   have HBE:=zxi (qa (qa HBB.out HBC.out) hbE)
   clear hrE hbE
   exact qus
 · obtain⟨d,hd⟩:∃ d:Nat,(b:Int)-xe=(d:Int):=⟨((b:Int)-xe).toNat,by omega⟩
   have HTL:=zxi (qcQ d (by have:=HB0.out;omega))
   have HP:=zxi (qbH d w1 (by have:=HB0.out;omega))
   go_wp2_with fail
   refine HP.out.mono ?_
   rintro e w2 ⟨⟨C,cc,rfl,_,hrC⟩,hbC⟩
   have HRC:=zxi hrC
   have HBC:=zxi hbC
   clear hrC hbC
   have HRO:=qbm false X (10^d) A C c cc w2 HV0.out (Nat.ne_of_gt (Nat.pow_pos zxd)) (by have h3:=HLi.out;omega) (by have h2:=HTL.out;omega) (Qg HBC.out HR1.out) HRC.out
   rw[qbU X d _ K HK.out (show xe-(b:Int) = -(d:Int) by omega),hG] at HRO
   replace HRO:=zxi HRO
   have HBE:=zxi (qa HBB.out HBC.out)
   exact qus):p:=h
theorem qxk {p:Prop} (h:p:=by
 by_cases ht:G=9218868437227405312
 · exact quL
 · exact quD):p:=h
theorem qw3 {p:Prop} (h:p:=by
 obtain rfl:X=V:=by rw[← HX.out,← HV.out,List.take_of_length_le (Nat.le_of_eq hsz)]
 clear hlt
 by_cases hv0:X=0
 · subst hv0
   exact qs5
 · have g1:=qcD hv0
   exact qqI):p:=h
theorem qx7 {p:Prop} (h:p:=by
 obtain⟨j,v,hj1,hj2,rfl,rfl,rfl,hv1,hv2⟩:=hrel
 exact qpP):p:=h
theorem qxZ {p:Prop} (h:p:=by
 have g1:=qcD hv0
 exact qqI):p:=h
theorem qx0 {p:Prop} (h:p:=by
 obtain rfl:j=s.size:=by omega
 exact qqU):p:=h
theorem qwG {p:Prop} (h:p:=by
 clear ht
 exact qnA):p:=h
theorem qwW {p:Prop} (h:p:=by
 have HNO:=zxi hno
 clear hno
 by_cases hlt:j<l.length
 · obtain⟨x,hx⟩:∃ x,l[j]?=some x:=⟨_,List.getElem?_eq_getElem hlt⟩
   exact qud
 · have hv:jp l s.data.toList=false:=by
    unfold jp
    rw[Bool.eq_false_iff];intro hm
    rw[List.contains_iff_mem] at hm
    obtain⟨j',hj',e⟩:=List.getElem_of_mem hm
    exact HNO.out j' _ (by rw[List.getElem?_eq_getElem hj',e]) zxo rfl
   have HVV:=zxi hv
   clear hv
   go_wp2_with fail
   go_ret
   exact⟨qi HVV.out.symm,_,rfl⟩):p:=h
theorem qwy {p:Prop} (h:p:=by
 have hok:=HOK.out k hk
 have g1:=hok.ndm
 have g2:=hok.le
 have g3:=hok.nd
 have g4:=hok.dp0
 have g5:=hok.dp1
 have gm:=hok.lt
 have gm18:=hok.lt18
 have hk60:k≤60:=by omega
 by_cases hlt:k<P
 · exact zz0
 · obtain rfl:k=P:=by omega
   exact qtv):p:=h
theorem qwq {p:Prop} (h:p:=by
 by_cases hnd:nd=0
 · rw[qdp (HCN.out h48) hnd] at hst
   have HST:=zxi hst
   have k6:((nd:Int) == 0)=true:=by simp;omega
   clear hst h48 gm18 hcv
   go_wp2_with fail
   go_round
   case rel=>exact⟨k+1,by omega,by go_num,rfl,by rw[HST.out],by rw[HST.out],by rw[HST.out],by rw[HST.out],by rw[HST.out],by rw[HST.out],by rw[HST.out]⟩
   case measure=>simp[intOf];omega
 · have k6:((nd:Int) == 0)=false:=by simp;omega
   by_cases hm:ndm<19
   · have hm18:=gm18 hm
     rw[qa2 H46.out (fun e=>hnd e.2) hm] at hst
     have HST:=zxi hst
     have k7:(ndm:Int)<19:=by omega
     have HCV:=zxi hcv
     clear hst hnd hm gm18 hcv h48
     go_wp2_with fail
     exact qqm
   · rw[Jc H46.out (fun e=>hnd e.2) hm] at hst
     have HST:=zxi hst
     have k7:¬ (ndm:Int)<19:=by omega
     have HTR:=zxi (show(trunc||decide (c≠48))=trunc by rw[HCN.out h48];simp)
     clear hst hnd hm gm18 hcv h48
     go_wp2_with fail
     go_round
     case rel=>exact⟨k+1,by omega,by go_num,rfl,by rw[HST.out],by rw[HST.out,HTR.out],by rw[HST.out],by rw[HST.out],by rw[HST.out];go_num,by rw[HST.out],by rw[HST.out]⟩
     case measure=>simp[intOf];omega):p:=h
theorem qwR {p:Prop} (h:p:=by
 clear k1
 have t1:¬ (T.size:Int)=0:=by omega
 have t2:((T.size:Int) == 0)=false:=by simpa using t1
 have t3:¬ T=ByteArray.empty:=fun e=>by rw[e] at hz;exact absurd hz (Nat.not_lt_zero _)
 have t4:(0:Int)<(T.size:Int):=by omega
 have t5:¬ T.toList=[]:=by rw[ByteArray.toList_eq];intro hc;exact t3 (QE (by show T.data.toList.length=0;rw[hc];rfl))
 have t6:(!T.toList.isEmpty)=true:=by simpa using t5
 have x1:¬ (E.size:Int)=0:=by omega
 have x2:((E.size:Int) == 0)=false:=by simpa using x1
 have x3:¬ E=ByteArray.empty:=fun e=>by rw[e] at hE0;exact absurd hE0 (Nat.not_lt_zero _)
 have x5:¬ E.toList=[]:=by rw[ByteArray.toList_eq];intro hc;exact x3 (QE (by show E.data.toList.length=0;rw[hc];rfl))
 have x6:(!E.toList.isEmpty)=true:=by simpa using x5
 have y1:(E.size:Int)≤3:=by omega
 have HE:=zxi (fun W=>qE E W zxo)
 exact qsX):p:=h
theorem qwB {p:Prop} (h:p:=by
 refine zKK hKK HKP fun hHeld2=>?_;clear hKK KK hHeld;rename _=>hHeld
 refine zRd 3 (h:=fun KK hKK=>?_)
 go_simp
 (refine(qfu _ _ _ _).mono ?_;rintro e wB ⟨⟨lbB,rfl,hB1⟩,hbB⟩)
 (try go_wp2_with fail)
 refine zKK hKK HKP fun hHeld2=>?_;clear hKK KK hHeld;rename _=>hHeld
 refine zRd 4 (h:=fun KK hKK=>?_)
 go_simp
 refine zKK hKK HKP fun hHeld2=>?_;clear hKK KK hHeld;rename _=>hHeld
 refine zRd 5 (h:=fun KK hKK=>?_)
 go_simp
 (refine((zb HP) _ _ _ _ [RR (eC 1 true),RR 10,Qh [RR 0,RR 12,RR 10]] (SortsAt.lit (vs:=[_,_,_]) (qG zxs) ⟨HEv.out _ _ _ 1 true hA zxo zxo zxq zxq,(zb H72),HO.out _ _ _ _ [_,_,_] [RR 0,RR 12,RR 10] _ hB1 zxq zxs zxh ⟨(zb H0),(zb H97),(zb H72),trivial⟩,trivial⟩)).mono ?_;rintro e wC ⟨he,hbC⟩;rw[hv] at he;subst he)
 (try go_wp2_with fail)
 refine zKK hKK HKP fun hHeld2=>?_;clear hKK KK hHeld;rename _=>hHeld
 refine zTk 6 (h:=?_)
 exact qe1):p:=h
theorem quF {p:Prop} (h:p:=by
 go_wp2_with (first | (go_at_call 114;go_must (rw[show w.alloc (.cells #[.int .i64 r.kind,.int .i64 r.fr,.int .i64 r.en,.int .i64 r.at_,.string r.name,.slice r.A r.n r.cap] 24)=W0 from hW0];refine HT.out.mono ?_);rintro e wA ⟨rfl,hbA⟩;clear e0 e1 e2 e3 e4 e5 f0 f1 f2 f3;obtain⟨-,e0,e1,e2,e3,e4,e5,f0,f1,f2,f3⟩:=qy HX.out HE0.out.1 HE0.out.2.1 HE0.out.2.2.1 HE0.out.2.2.2 hbA) | (go_at_call 74;go_must (refine(HS.out _ hbA _ _ _ [] (.nil_ _ _ _)).mono ?_);rintro e wB ⟨rfl,hbB⟩))
 exact qtI):p:=h
theorem qv6 {p:Prop} (h:p:=by
 exact bodyPost_ret (v:=.tuple #[.int .u64 mant,.int .i64 (0),.bool false,.bool trunc,.bool false,.int .i64 s.size,.bool true]) (by simp[results,Tryz.results135,go_sem]<;>omega) rfl ⟨by rw[HSG.out,HEX.out,if_pos hm0],rfl⟩):p:=h
theorem qxV {p:Prop} (h:p:=by
 obtain rfl:k=P:=by omega
 exact qtv):p:=h
theorem qwl {p:Prop} (h:p:=by
 go_enter Tryz.func171,Tryz.ntmps171
 go_wp2_with fail
 refine HD1.out.mono ?_
 rintro e w1 ⟨rfl,hb1⟩
 go_wp2_with fail
 refine(HP.out _).mono ?_
 rintro e w2 ⟨rfl,rfl⟩
 go_wp2_with fail
 refine(HD2.out _).mono ?_
 rintro e w3 ⟨rfl,hb3⟩
 go_wp2_with fail
 refine(HD2.out _).mono ?_
 rintro e w4 ⟨rfl,hb4⟩
 go_wp2_with fail
 refine(HE.out _).mono ?_
 rintro e w5 ⟨rfl,rfl⟩
 go_wp2_with fail
 refine(HM.out _).mono ?_
 rintro e w6 ⟨rfl,hb6⟩
 go_wp2_with fail
 go_ret2
 exact⟨by rw[HV.out];exact qa0 (by go_num) (by simp only[hRs];omega),qa (qa (qa hb1 hb3) hb4) hb6⟩):p:=h
theorem qwo {p:Prop} (h:p:=by
 clear htk hk hsz hnu hqq hq h1 hp hat h5 hn hm
 go_enter Tryz.func157,Tryz.ntmps157
 go_wp2_with (first | (go_at_call 88;refine(HS.out _).mono ?_;rintro e w1 ⟨rfl,hb1⟩;have HA1:=zxi (qe HA0.out hb1);have HB1:=zxi (HB0.out.trans (hb1.mono HB0.out.size));clear hb1) | (go_at_call 171;refine(HU.out _).mono ?_;rintro e w2 ⟨rfl,hb2⟩;obtain⟨a0,a1,a2,a3,az,al⟩:=qq (qe HA1.out hb2);have HA2:=zxi (qe HA1.out hb2);have HB2:=zxi (HB1.out.trans (hb2.mono HB1.out.size));clear hb2) | (go_at_call 174;refine(HQ.out _).mono ?_;rintro e w3 ⟨rfl,hb3⟩;obtain⟨a0,a1,a2,a3,az,al⟩:=qq (qe HA2.out hb3);have HA3:=zxi (qe HA2.out hb3);have HB3:=zxi (HB2.out.trans (hb3.mono HB2.out.size));clear hb3) | (go_at_call 155;refine(HP.out _).mono ?_;rintro e w9 ⟨rfl,rfl⟩) | (go_at_call 175;refine(HM.out _ (HG.out.below HB3.out).sp).mono ?_;rintro e w4 ⟨rfl,hb4⟩;obtain⟨a0,a1,a2,a3,az,al⟩:=qq (qe HA3.out hb4);have HA4:=zxi (qe HA3.out hb4);have HB4:=zxi (HB3.out.trans (hb4.mono HB3.out.size));clear hb4))
 exact qaU HA4.out zxn HB4.out HO.out rfl rfl):p:=h
theorem qxD {p:Prop} (h:p:=by
 obtain⟨x,hx⟩:∃ x,l[j]?=some x:=⟨_,List.getElem?_eq_getElem hlt⟩
 exact qud):p:=h
theorem qrv {p:Prop} (h:p:=by
 go_wp2_with (at_builtin;go_must (refine qr (cs:=JT) rfl _ _ 53 rfl 56 i56 _ 24 Tryz.underlying53 hi56 hz0 hz1 hz2 rfl zxd qR jF (wr.alloc (.cells #[.int .i64 101] 3)) w.heap.size (wr.heap.size+1) v gs (wr.heap.size,1) _ rfl (by rfl) (by rfl) zxs (HO.out.alloc _) (by unfold maxLen;omega) zxo (by rw[World.size_alloc];have:=HB.out.size;omega) ?_);intro g2 cap2 w2 ho2 hg2 hat2 hlt2)
 have HP:=zxi (And.intro ho2 (Qo (c:=101) (ci:=101) (by rfl) HO.out HRA.out HX.out HB.out hg2 HR.out))
 exact ql4):p:=h
theorem qto {p:Prop} (h:p:=by
 go_wp2_with fail
 exact qqm):p:=h
theorem qo8 {p:Prop} (h:p:=by
 go_round
 case rel=>exact⟨k+1,by omega,by go_num,rfl,by rw[HST.out],by rw[HST.out,HTR.out],by rw[HST.out],by rw[HST.out],by rw[HST.out];go_num,by rw[HST.out],by rw[HST.out]⟩
 case measure=>simp[intOf];omega):p:=h
theorem qqg {p:Prop} (h:p:=by
 have k1:(48:Int)≤(c.toNat:Int):=by simp[qf] at hdg;omega
 have k2:(c.toNat:Int)≤57:=by simp[qf] at hdg;omega
 have k3:((c.toNat:Int) == 95)=false:=by rw[beq_eq_false_iff_ne];omega
 have hc46:c.toNat≠46:=fun e=>h46 (UInt8.toNat_inj.1 e)
 have k4:((c.toNat:Int) == 46)=false:=by rw[beq_eq_false_iff_ne];omega
 have H46:=zxi h46
 clear h46 hdg
 by_cases hz:c.toNat=48∧N=0
 · obtain⟨hz1,hz2⟩:=hz
   subst hz2
   rw[qcS (UInt8.toNat_inj.1 hz1) (List.eq_nil_of_length_eq_zero HN.out)] at hst
   have HST:=zxi hst
   have k5:((c.toNat:Int) == 48)=true:=by rw[beq_iff_eq];omega
   clear hst hcl
   go_wp2_with fail
   refine⟨⟨k+1,cc,by omega,by go_num,by rw[HST.out],by rw[HST.out],by rw[HST.out];exact HM.out.setDp _,by rw[HST.out];exact HH.out,HB.out.setCell (p:=⟨b,801,none⟩) zxn _⟩,by simp[intOf];omega⟩
 · have hz':¬ (c=48∧D=[]):=fun e=>hz ⟨by rw[e.1];rfl,by rw[← HN.out,e.2];rfl⟩
   exact qwP):p:=h
theorem qso {p:Prop} (h:p:=by
 have HC:=zxi ((HGET.out j hjs).trans (congrArg some hc))
 have hdg:=HDS.out j c (by have:=HQQ.out;omega) HC.out
 have k1:(48:Int)≤(c.toNat:Int):=by simp[qf] at hdg;omega
 have k2:(c.toNat:Int)≤57:=by simp[qf] at hdg;omega
 have k3:((c.toNat:Int) == 95)=false:=by rw[beq_eq_false_iff_ne];omega
 have hv99:v<100:=by
  exact qsZ
 have HNX:=zxi (qac (L:=s.data.toList) (Q:=Q) (j:=j) hj1 HC.out)
 have hcv:(((v*10+(c.toNat-48):Nat)):Int)=(v:Int)*10+(c.toNat:Int)-48:=by omega
 have HCV:=zxi hcv
 have hjs2:(j:Int)<(s.size:Int):=by omega
 have hv3:(v:Int)<100:=by omega
 clear hdg hv1 hcv
 go_wp2_with fail
 refine⟨⟨j+1,v*10+(c.toNat-48),by omega,by omega,by go_num,by rw[HCV.out],by have h1:=HV1.out;rw[show j+1-Q=(j-Q)+1 by omega,Nat.pow_succ];omega,by rw[HNX.out,← HV2.out],?_⟩,by simp[intOf];omega⟩
 first | rfl | trivial):p:=h
theorem qmW {p:Prop} (h:p:=by
 go_wp2_with fail
 have hlen:(((D++[c.toNat-48]).length:Nat):Int)=(N:Int)+1:=by rw[List.length_append,HN.out];rfl
 refine⟨⟨k+1,cc.set N (48+(c.toNat-48)),by omega,by go_num,by rw[HST.out],by rw[HST.out],?_,by rw[HST.out];exact HHS.out,?_⟩,by simp[intOf];omega⟩
 · rw[HST.out]
   show Dcm _ b _ (((D++[c.toNat-48]).length:Nat):Int) dp false false
   rw[hlen]
   exact HMS.out.setNd _
 · exact HBS.out.setCell (p:=⟨b,800,none⟩) zxn _):p:=h
theorem qp8 {p:Prop} (h:p:=by
 rintro e w2 ⟨rfl,rfl⟩
 go_wp2_with fail
 go_ret2
 exact⟨by unfold qda;rw[HV.out.1];exact qa0 rfl (by have:=HV.out.2;have h5:=HA.out;have h6:=HB.out;simp only;omega),rfl⟩):p:=h
theorem qq2 {p:Prop} (h:p:=by
 have hdg:=HDS.out j c (by have:=HQQ.out;omega) HC.out
 have k1:(48:Int)≤(c.toNat:Int):=by simp[qf] at hdg;omega
 have k2:(c.toNat:Int)≤57:=by simp[qf] at hdg;omega
 have k3:((c.toNat:Int) == 95)=false:=by simp;omega
 have hv99:v<100:=by
  exact qsZ
 have HNX:=zxi (qac (L:=s.data.toList) (Q:=Q) (j:=j) hj1 HC.out)
 have hcv:(((v*10+(c.toNat-48):Nat)):Int)=(v:Int)*10+(c.toNat:Int)-48:=by omega
 have HCV:=zxi hcv
 have hjs2:(j:Int)<(s.size:Int):=by omega
 have hv3:(v:Int)<100:=by omega
 clear hdg hv1 hcv
 go_wp2_with fail
 go_round
 case rel=>exact⟨j+1,v*10+(c.toNat-48),by omega,by omega,by go_num,rfl,by rw[HCV.out],by have h1:=HV1.out;rw[show j+1-Q=(j-Q)+1 by omega,Nat.pow_succ];omega,by rw[HNX.out,← HV2.out]⟩
 case measure=>simp[intOf];omega):p:=h
theorem qhu {p:Prop} (h:p:=by
 go_enter Tryz.func126,Tryz.ntmps126
 go_wp2_with fail
 go_ret
 exact⟨jB (by rw[HV.out];rfl),rfl⟩):p:=h
theorem qk7 {p:Prop} (h:p:=by
 rw[qgv nm tok _ hp hf zxd]
 simp[qeR,xT,quS,qo1,qhh,quI,qc4,qiB,qaF,qvN,qve,qaC,J2,isR,JB,qj1,qJ,QP,qL,qc1,qK,jh,j8,Tree.kind,Tree.name,Tree.kids,jV,levW,builtW,QC,Qz,List.findIdx?,List.findIdx?.go,hx,hf,ha,hT]):p:=h
theorem qeZ {p:Prop} (h:p:=by
 have h:=List.getElem?_eq_getElem (l:=s.data.toList) (i:=a) (by show a<s.size;omega)
 rw[hc1] at h
 exact(Option.some.inj h).symm):p:=h
theorem qup {p:Prop} (h:p:=by
 clear htk hk hsz hnu hqq hq h1 hvs
 go_enter Tryz.func157,Tryz.ntmps157
 go_wp2_with (first | (go_at_call 88;refine(HS.out _).mono ?_;rintro e w1 ⟨rfl,hb1⟩;have HA1:=zxi (qe HA0.out hb1);have HB1:=zxi (HB0.out.trans (hb1.mono HB0.out.size));clear hb1) | (go_at_call 171;refine(HU.out _).mono ?_;rintro e w2 ⟨rfl,hb2⟩;obtain⟨a0,a1,a2,a3,az,al⟩:=qq (qe HA1.out hb2);have HA2:=zxi (qe HA1.out hb2);have HB2:=zxi (HB1.out.trans (hb2.mono HB1.out.size));clear hb2) | (go_at_call 174;refine(HQ.out _).mono ?_;rintro e w3 ⟨rfl,hb3⟩;obtain⟨a0,a1,a2,a3,az,al⟩:=qq (qe HA2.out hb3);have HA3:=zxi (qe HA2.out hb3);have HB3:=zxi (HB2.out.trans (hb3.mono HB2.out.size));clear hb3))
 exact qiM):p:=h
theorem qp5 {p:Prop} (h:p:=by
 clear k1
 have t1:¬ (T.size:Int)=0:=by omega
 have t2:((T.size:Int) == 0)=false:=by simpa using t1
 have t3:¬ T=ByteArray.empty:=fun e=>by rw[e] at hz;exact absurd hz (Nat.not_lt_zero _)
 have t4:(0:Int)<(T.size:Int):=by omega
 have t5:¬ T.toList=[]:=by rw[ByteArray.toList_eq];intro hc;exact t3 (QE (by show T.data.toList.length=0;rw[hc];rfl))
 have t6:(!T.toList.isEmpty)=true:=by simpa using t5
 have x1:¬ (E.size:Int)=0:=by omega
 have x2:((E.size:Int) == 0)=false:=by simpa using x1
 have x3:¬ E=ByteArray.empty:=fun e=>by rw[e] at hE0;exact absurd hE0 (Nat.not_lt_zero _)
 have x5:¬ E.toList=[]:=by rw[ByteArray.toList_eq];intro hc;exact x3 (QE (by show E.data.toList.length=0;rw[hc];rfl))
 have x6:(!E.toList.isEmpty)=true:=by simpa using x5
 have y1:¬ (E.size:Int)≤3:=by omega
 exact quw):p:=h
theorem qmT {p:Prop} (h:p:=by
 show Calls Tryz.prog 112 #[r.val,.pointer (some ⟨b0,0,none⟩),.pointer (some ⟨b1,0,none⟩),.pointer (some ⟨b2,0,none⟩),.pointer (some ⟨b3,0,none⟩)] w _
 unfold RN.val
 go_enter Tryz.func112,Tryz.ntmps112
 go_wp2_with fail
 go_ret
 rw[show w.alloc (.cells #[.int .i64 r.kind,.int .i64 r.fr,.int .i64 r.en,.int .i64 r.at_,.string r.name,.slice r.A r.n r.cap] 24)=W0 from hW0]
 exact⟨rfl,HB.out⟩):p:=h
theorem qpi {p:Prop} (h:p:=by
 go_enter Tryz.func114,Tryz.ntmps114
 go_wp2_with (go_at_call 135;refine HY.out.mono ?_;rintro e w2 ⟨⟨v,rfl,hown⟩,hb⟩;obtain⟨g,cap,rfl,hg,_,c0,c1,_,_⟩:=qev hown (i:=0) (t:=a) rfl;have HOW:=zxi hown;simp only[Nat.zero_mul,Nat.zero_add,List.length_cons,List.length_nil,Nat.reduceAdd] at c0 c1 ⊢;rw[HE.out] at c1;clear hown)
 exact qew):p:=h
theorem qnP {p:Prop} (h:p:=by
 go_enter Tryz.func77,Tryz.ntmps77
 go_wp2_with (go_at_call 90;refine HY.out.mono ?_;rintro e w2 ⟨⟨v,rfl,hown⟩,hb⟩;obtain⟨g,cap,rfl,hg,_,c0,c1,_,_⟩:=qev hown (i:=0) (t:=a) rfl;have HOW:=zxi hown;simp only[Nat.zero_mul,Nat.zero_add,List.length_cons,List.length_nil,Nat.reduceAdd] at c0 c1 ⊢;rw[HE.out] at c1;clear hown)
 exact qew):p:=h
theorem qj7 {p:Prop} (h:p:=by
 go_enter Tryz.func130,Tryz.ntmps130
 go_wp2_with fail
 refine HRUN0.out.mono ?_
 rintro e wx ⟨rfl,rfl⟩
 exact qgC):p:=h
theorem qv1 {p:Prop} (h:p:=by
 subst hv0
 exact qs5):p:=h
theorem qtc {p:Prop} (h:p:=by
 apply wp_goto
 refine⟨_,rfl,?_⟩
 go_wp2_with fail
 go_quiet (fail)
 go_wp2_with fail
 go_step3
 go_wp2_with fail
 go_quiet (fail)
 go_wp2_with fail
 rw[Exit.noGoto_ret]
 go_ret2
 refine⟨?_,qv HBX.out _⟩
 have e:=QU 0 2047 zxd zxd
 have e2:bits BinOp.or IntKind.u64 (bits BinOp.and IntKind.u64 0 4503599627370495) (IntKind.u64.wrap (IntKind.u64.wrap (bits BinOp.and IntKind.i64 2047 2047)*4503599627370496))=9218868437227405312:=e
 show Ending.returned (.tuple #[.int .u64 (bits BinOp.or IntKind.u64 (bits BinOp.and IntKind.u64 0 4503599627370495) (IntKind.u64.wrap (IntKind.u64.wrap (bits BinOp.and IntKind.i64 2047 2047)*4503599627370496))),.bool true])=_
 rw[e2,HRt.out]
 rfl):p:=h
theorem qhB {p:Prop} (h:p:=by
 clear hq
 go_wp2_with (go_at_call 95;refine HC.out.mono ?_;rintro e w2 ⟨rfl,hb2⟩;have HB2:=zxi (qa HB1.out hb2);clear hb2)
 go_ret
 exact⟨by rw[HV.out];rfl,HB2.out⟩):p:=h
theorem qr4 {p:Prop} (h:p:=by
 go_enter Tryz.func112,Tryz.ntmps112
 go_wp2_with (first | (go_at_call 95;go_must (rw[show w.alloc (.cells #[.int .i64 r.kind,.int .i64 r.fr,.int .i64 r.en,.int .i64 r.at_,.string r.name,.slice r.A r.n r.cap] 24)=W0 from hW0];refine HT.out.mono ?_);rintro e wA ⟨rfl,hbA⟩;clear e0 e1 e2 e3 e4 e5 f0 f1 f2 f3;obtain⟨-,e0,e1,e2,e3,e4,e5,f0,f1,f2,f3⟩:=qy HX.out HE0.out.1 HE0.out.2.1 HE0.out.2.2.1 HE0.out.2.2.2 hbA) | (go_at_call 74;go_must (refine(HS.out _ hbA _ _ _ [] (.nil_ _ _ _)).mono ?_);rintro e wB ⟨rfl,hbB⟩))
 exact qtI):p:=h
theorem qw8 {p:Prop} (h:p:=by
 have q1:((mant:Int) != 0)=true:=by simp;omega
 exact qvs):p:=h
theorem qru {p:Prop} (h:p:=by
 refine zTk 12 (h:=?_)
 refine zTk 13 (h:=?_)
 refine zTk 14 (h:=?_)
 refine zTk 16 (h:=?_)
 refine zRd 15 (h:=fun KK hKK=>?_)
 go_simp
 (go_at_call 96;refine(aE _ _ _).mono ?_;rintro e wA ⟨⟨lb,rfl,hE⟩,hbA⟩)
 (try go_wp2_with fail)
 refine zKK hKK HKP fun hHeld2=>?_;clear hKK KK hHeld;rename _=>hHeld
 refine zRd 17 (h:=fun KK hKK=>?_)
 go_simp
 (go_at_fn 112;refine(HY.out _ _ zxq hE).mono ?_;rintro e wB ⟨rfl,hbB⟩)
 exact qro):p:=h
theorem qeL {p:Prop} (h:p:=by
 go_wp2_with (go_at_call 58;refine HP.out.mono ?_;rintro e w2 ⟨rfl,hb2⟩)
 exact qg8):p:=h
theorem qqT {p:Prop} (h:p:=by
 clear hz
 have hz65:z≤200000:=by have:=HZ.out;omega
 go_wp2_with (at_builtin;go_must (refine qo (cs:=uc) rfl _ _ 135 rfl 87 i30 _ 8 Tryz.underlying135 hi30 hz0 hz1 hz2 rfl zxd Ji qbb _ w.heap.size _ u5 l (z%65536) _ (by simp[uc]) (by rfl) (by rfl) (by rfl) HO.out (by unfold maxLen;have:=HLN.out;omega) (by have:=HLN.out;omega) hbs ?_);intro v' w' hown' hg hat)
 go_roundw
 case rel=>exact⟨i+1,z/65536,l++[z%65536],.inl zxo,by have:=HN.out;omega,by go_num,by go_num,HI.out.step hx65 hy65 HDX.out HDY.out HZ.out,hown',qI HBE.out HO.out hbs hg⟩
 case measure=>simp[intOf];omega):p:=h
theorem qcK {p:Prop} (h:p:=by
 subst h;simp[QP,qJ,qL,qK,jh,Tree.kind,Tree.name,Tree.kids,qbJ]):p:=h
theorem qtZ {p:Prop} (h:p:=by
 have q19:(r.kind == 19)=false:=by simp[hrk]
 clear hkd hrk hG hm hc hG0 hm0
 unfold RN.val at HQ HP ⊢
 unfold qd at hW0
 go_enter Tryz.func87,Tryz.ntmps87
 go_wp2_with (first | (go_at_call 58;go_must (refine HQ.out.mono ?_);rintro e wA ⟨rfl,hbA⟩;have HE:=zxi (qa HB.out hbA);clear e0 e1 e2 e3 e4 e5;obtain⟨-,e0,e1,e2,e3,e4,e5⟩:=qh HX.out hbA) | (go_at_call 83;go_must (refine(HP.out _ hbA).mono ?_);rintro e wB ⟨rfl,hbB⟩;have HE2:=zxi (qa HE.out hbB)))
 all_goals go_ret
 all_goals first | exact⟨qi (by simp[*]),HE2.out⟩ | exact⟨qi (by simp[*]),HE.out⟩):p:=h
theorem qsO {p:Prop} (h:p:=by
 have p4:¬ (a:Int)=(s.size:Int):=by omega
 have p5:((a:Int) == (s.size:Int))=false:=by simpa using p4
 have p8:(a:Int)<(s.size:Int):=by omega
 have p6:(c1.toNat:Int)=46:=by rw[h46];rfl
 have p7:((c1.toNat:Int) != 46)=false:=by rw[p6];rfl
 have HRUN1:=zxi (qV s k1 w zxo zxo)
 rw[hr1] at HRUN1
 have p10:(a:Int)+1=(k1:Int):=by omega
 clear hc1 h46 hk1 hr1
 clear hr0 hc0
 go_enter Tryz.func130,Tryz.ntmps130
 go_wp2_with fail
 refine HRUN0.out.mono ?_
 rintro e wx ⟨rfl,rfl⟩
 go_wp2_with fail
 refine HRUN1.out.mono ?_
 rintro e wx ⟨rfl,rfl⟩
 exact qgC):p:=h
theorem qid {p:Prop} (h:p:=by
 exact ro ⟨gs,HRW.out,HRA.out.later zxr⟩ (qa HB.out zxr) HRA.out.len):p:=h
theorem qtP {p:Prop} (h:p:=by
 clear hkids hn hv hk hkd hrk hG hm hc hG0 hm0 g0 g1 g2 g3 hname
 show Calls Tryz.prog 112 #[r.val,.pointer (some ⟨b0,0,none⟩),.pointer (some ⟨b1,0,none⟩),.pointer (some ⟨b2,0,none⟩),.pointer (some ⟨b3,0,none⟩)] w _
 unfold RN.val at HT ⊢
 go_enter Tryz.func112,Tryz.ntmps112
 go_wp2_with (go_at_call 115;go_must (rw[show w.alloc (.cells #[.int .i64 r.kind,.int .i64 r.fr,.int .i64 r.en,.int .i64 r.at_,.string r.name,.slice r.A r.n r.cap] 24)=W0 from hW0];refine HT.out.mono ?_);rintro e wA ⟨rfl,hbA⟩)
 exact qnQ):p:=h
theorem qdi {p:Prop} (h:p:=by
 go_wp2_with fail
 go_ret
 exact⟨rfl,rfl⟩):p:=h
theorem qq8 {p:Prop} (h:p:=by
 go_round
 case rel=>exact⟨k+1,by omega,by go_num,rfl,by rw[HST.out],by rw[HST.out],by rw[HST.out],by rw[HST.out],by rw[HST.out],by rw[HST.out],by rw[HST.out]⟩
 case measure=>simp[intOf];omega):p:=h
theorem qhV {p:Prop} (h:p:=by
 clear hq
 go_wp2_with (go_at_call 76;refine HC.out.mono ?_;rintro e w2 ⟨rfl,q2,rfl⟩)
 go_ret
 exact⟨by rw[HV.out];rfl,qQ HBW.out _⟩):p:=h
theorem qrn {p:Prop} (h:p:=by
 rw[hd2] at HE
 clear hd2 hd3
 go_enter Tryz.func184,Tryz.ntmps184
 go_wp2_with fail
 refine HC.out.mono ?_
 rintro e w1 ⟨rfl,nn,rfl⟩
 go_wp2_with fail
 refine(HN.out _).mono ?_
 rintro e wx ⟨rfl,hxN⟩
 subst hxN
 go_wp2_with fail
 refine(HD.out _).mono ?_
 rintro e wx ⟨rfl,hxD⟩
 subst hxD
 go_wp2_with fail
 refine(HX.out _).mono ?_
 rintro e wx ⟨rfl,hxX⟩
 subst hxX
 go_wp2_with fail
 refine(HE.out _).mono ?_
 rintro e wx ⟨rfl,hxE⟩
 subst hxE
 go_wp2_with fail
 go_ret
 first | exact⟨rfl,qex _ _⟩ | (refine⟨?_,qex _ _⟩;simp[y2])):p:=h
theorem qf3 {p:Prop} (h:p:=by
 go_wp2_with fail
 go_ret
 exact⟨by rw[HRR.out,HFIN.out];exact jB (by rw[qtk];first | done | rfl),HB10.out⟩):p:=h
theorem qgz {p:Prop} (h:p:=by
 go_wp2_with fail
 go_ret
 exact⟨by rw[HRR.out,HFIN.out];exact jB (by rw[qss];first | done | rfl),HB10.out⟩):p:=h
theorem qmH {p:Prop} (h:p:=by
 have y2:(hi:Int)<(x.toNat:Int):=by omega
 have HW:=zxi (show qW (s.data.toList.drop k)=0 by
  rw[HV.out,hok,decide_eq_false (p:=x.toNat≤hi) zxo];simp)
 clear hok hg hg2 hd hjp hp x1 x2
 exact qio):p:=h
theorem qeN {p:Prop} (h:p:=by
 go_enter Tryz.func187,Tryz.ntmps187
 go_wp2_with fail
 go_ret2
 exact⟨by rw[HV.out];rfl,0,rfl⟩):p:=h
theorem qqU {p:Prop} (h:p:=by
 have HVV:=zxi (show(qM 0 (s.data.toList.drop Q):Nat)=v by rw[HV2.out,List.take_of_length_le (by simp<;>omega)])
 have HQK:=zxi HQQ.out.symm
 have hv999:v<1000:=by
  exact qqk
 clear hv1
 by_cases hm0:mant=0
 · have q1:((mant:Int) != 0)=false:=by simp;omega
   exact qtl
 · have q1:((mant:Int) != 0)=true:=by simp;omega
   go_wp2_with fail
   exact qt2):p:=h
theorem qtv {p:Prop} (h:p:=by
 have t1:=H.out.dot
 have t2:=H.out.dig
 clear hok hk hlt gm18
 obtain⟨σ,hσ⟩:∃ σ,je s.data.toList k=σ:=⟨_,rfl⟩
 rw[hσ] at t1 t2 g1 g2 g3 g4 g5 gm ⊢
 obtain⟨mant,nd,ndm,dp,dot,dig,trunc⟩:=σ
 dsimp only at t1 t2 g1 g2 g3 g4 g5 gm
 subst t1 t2
 have HSG:=zxi hσ
 clear hσ
 have HEX:=zxi (show ∀ x:Int,JE ⟨mant,nd,ndm,dp,true,true,trunc⟩ x=if mant=0 then 0 else dp+x-ndm from fun x=>rfl)
 have e2:s[k]=101:=Option.some.inj ((HGET.out k zxo).symm.trans HE.out)
 have hks:(k:Int)<(s.size:Int):=by omega
 have e3:s[k+1]=43:=Option.some.inj ((HGET.out (k+1) zxo).symm.trans HG.out)
 have hks2:(k:Int)+1<(s.size:Int):=by omega
 obtain⟨Q,hQ⟩:∃ Q,k+2=Q:=⟨_,rfl⟩
 have hQs:Q<s.size:=by omega
 obtain⟨cq,hcq⟩:∃ c,(s[Q]'hQs)=c:=⟨_,rfl⟩
 have HDQ:=zxi (HDS.out Q cq zxo ((HGET.out Q zxo).trans (congrArg some hcq)))
 have r1:¬ (cq.toNat:Int)<48:=by have:=HDQ.out;simp[qf] at this;omega
 have r2:¬ (57:Int)<(cq.toNat:Int):=by have:=HDQ.out;simp[qf] at this;omega
 have r3:((cq.toNat:Int) == 43)=false:=by simp;omega
 have r4:((cq.toNat:Int) == 45)=false:=by simp;omega
 have hQ1:(k:Int)+1+1=(Q:Int):=by omega
 exact zz6):p:=h
theorem qqI {p:Prop} (h:p:=by
 have g2:(((qC X).length:Int) == 0)=false:=by simpa using g1
 have HV0:=zxi hv0
 clear hv0
 go_wp2_with fail
 refine(HO1.out _).mono ?_
 rintro e w1 ⟨⟨B,cb,rfl,_,hrB⟩,hbB⟩
 have HRB:=zxi hrB
 have HBB:=zxi (qa HB.out hbB)
 have HR1:=zxi (Qg hbB HR.out)
 clear hrB hbB
 have HX10:=zxi (jn 4 1 zxd)
 obtain⟨G,hG⟩:∃ G,jW X (0-(b:Int)) K=G:=⟨_,rfl⟩
 rw[hG] at HRES
 have gx:¬ (b:Int)≤0:=by omega
 have HTL:=zxi (qcQ b (by have:=HB0.out;omega))
 have HP:=zxi (qbH b w1 (by have:=HB0.out;omega))
 go_wp2_with fail
 refine HP.out.mono ?_
 rintro e w2 ⟨⟨C,cc,rfl,_,hrC⟩,hbC⟩
 have HRC:=zxi hrC
 have HBC:=zxi hbC
 clear hrC hbC
 have HRO:=qbm false X (10^b) A C c cc w2 HV0.out (Nat.ne_of_gt (Nat.pow_pos zxd)) (by have h3:=HLi.out;omega) (by have h2:=HTL.out;omega) (Qg HBC.out HR1.out) HRC.out
 rw[qbU X b _ K HK.out (show(0:Int)-(b:Int) = -(b:Int) by omega),hG] at HRO
 replace HRO:=zxi HRO
 have HBE:=zxi (qa HBB.out HBC.out)
 exact qxv):p:=h
theorem qud {p:Prop} (h:p:=by
 have hc:(w.drewN q).cell? ⟨b,off+j,none⟩=some (.string (qn x)):=HH.out j x hx
 have HX:=zxi hx
 clear hx
 by_cases he:x=s.data.toList
 · have e1:(qn x).toList=s.toList:=by rw[he,jE]
   exact qrt
 · have e1:¬ (qn x).toList=s.toList:=fun e=>he (by rw[ByteArray.toList_eq,ByteArray.toList_eq,qj] at e;exact e)
   exact qsY):p:=h
theorem qnA {p:Prop} (h:p:=by
 go_wp2_with fail
 refine HRO.out.mono ?_
 rintro e w4 ⟨rfl,hb4⟩
 have HB4:=zxi (qa HBE.out hb4)
 clear hb4
 go_wp2_with fail
 go_ret2
 rw[HR0.out]
 exact⟨rfl,HB4.out⟩):p:=h
theorem qvs {p:Prop} (h:p:=by
 go_wp2_with fail
 exact qt2):p:=h
theorem qrI {p:Prop} (h:p:=by
 have HQK:=zxi HQQ.out.symm
 have hv999:v<1000:=by
  exact qqk
 clear hv1
 by_cases hm0:mant=0
 · have q1:((mant:Int) != 0)=false:=by simp;omega
   go_wp2_with fail
   first | rw[Exit.noGoto_ret] | skip
   exact qv6
 · have q1:((mant:Int) != 0)=true:=by simp;omega
   exact qtt):p:=h
theorem qxl {p:Prop} (h:p:=by
 have q1:((mant:Int) != 0)=false:=by simp;omega
 exact qtl):p:=h
theorem qsV {p:Prop} (h:p:=by
 have hcn:c≠48:=fun e=>h48 (by rw[e];rfl)
 by_cases hm:ndm<19
 · have hm18:=gm18 hm
   exact qsq
 · rw[Jc H46.out (fun e=>hcn e.1) hm] at hst
   exact qta):p:=h
theorem qs6 {p:Prop} (h:p:=by
 go_wp2_with fail
 refine HC1.out.mono ?_
 rintro e w2 ⟨rfl,rfl⟩
 go_wp2_with fail
 refine HC2.out.mono ?_
 rintro e w2 ⟨rfl,rfl⟩
 go_wp2_with fail
 refine(HRR.out _).mono ?_
 rintro e w3 ⟨rfl,hb3⟩
 have HN2:=zxi (HN1.out.later hb3)
 obtain⟨d0,d1,d2,d3,dz,dl⟩:=qq HN2.out.t
 obtain⟨e0,e1,e2,e3,ez,el⟩:=qq HN2.out.r
 clear hb3
 go_wp2_with fail
 exact jN HN2.out.r zxn HN2.out.b (jU (k:=0) (t:=⟨#[]⟩) (a:=0) (b:=0) HV.out (fun h=>absurd h zxd)) rfl rfl):p:=h
theorem qxe {p:Prop} (h:p:=by
 have e1:¬ (qn x).toList=s.toList:=fun e=>he (by rw[ByteArray.toList_eq,ByteArray.toList_eq,qj] at e;exact e)
 exact qsY):p:=h
theorem qkb {p:Prop} (h:p:=by
 go_enter Tryz.func44,Tryz.ntmps44
 go_wp2_with (first | (go_at_call 59;refine HL0.out.mono ?_;rintro e w' ⟨rfl,rfl⟩))
 exact qnM):p:=h
theorem qsX {p:Prop} (h:p:=by
 rw[hd2] at HE
 clear hd2
 go_enter Tryz.func184,Tryz.ntmps184
 go_wp2_with fail
 refine HC.out.mono ?_
 rintro e w1 ⟨rfl,nn,rfl⟩
 go_wp2_with fail
 refine(HN.out _).mono ?_
 rintro e wx ⟨rfl,hxN⟩
 subst hxN
 go_wp2_with fail
 refine(HD.out _).mono ?_
 rintro e wx ⟨rfl,hxD⟩
 subst hxD
 go_wp2_with fail
 refine(HX.out _).mono ?_
 rintro e wx ⟨rfl,hxX⟩
 subst hxX
 go_wp2_with fail
 refine(HE.out _).mono ?_
 rintro e wx ⟨rfl,hxE⟩
 subst hxE
 go_wp2_with fail
 go_ret
 refine⟨?_,qex _ _⟩
 simp):p:=h
theorem qqf {p:Prop} (h:p:=by
 have:10^(s.size-Q)≤10^3:=Nat.pow_le_pow_right zxd (by have:=HQQ.out;omega)
 omega):p:=h
theorem qn3 {p:Prop} (h:p:=by
 have y1:(x.toNat:Int)<(lo:Int):=by omega
 have HW:=zxi (show qW (s.data.toList.drop k)=0 by
  rw[HV.out,hok,decide_eq_false zxo];rfl)
 clear hok hg hg2 hd hjp hp x1
 exact qio):p:=h
theorem qty {p:Prop} (h:p:=by
 rw[hde] at HE
 have HV:=zxi (And.intro HV0.out (show qcv (s.data.toList.drop j)=0 by rw[HX.out,hde,if_neg zxs]))
 clear h101 hde
 go_wp2_with fail
 refine(HCj.out _).mono ?_
 rintro e w2 ⟨rfl,rfl⟩
 go_wp2_with fail
 refine(H43.out _).mono ?_
 rintro e w2 ⟨rfl,rfl⟩
 go_wp2_with fail
 refine(H45.out _).mono ?_
 exact qtO):p:=h
theorem qg2 {p:Prop} (h:p:=by
 go_enter Tryz.func64,Tryz.ntmps64
 go_wp2_with (fail)
 go_ret
 exact⟨qi HV.out.symm,HB.out⟩):p:=h
theorem qkL {p:Prop} (h:p:=by
 go_enter Tryz.func182,Tryz.ntmps182
 go_wp2_with (go_at_call 191;refine HD.out.mono ?_;rintro e w' ⟨rfl,rfl⟩)
 go_ret
 exact⟨qi HW.out.symm,rfl⟩):p:=h
theorem qnB {p:Prop} (h:p:=by
 go_enter Tryz.func150,Tryz.ntmps150
 go_wp2_with (first | (go_at_call 61;refine(HD.out _).mono ?_;rintro e w2 ⟨rfl,rfl⟩))
 go_ret
 exact⟨rfl,rfl⟩):p:=h
theorem qtC {p:Prop} (h:p:=by
 clear k1
 have t1:¬ (T.size:Int)=0:=by omega
 have t2:((T.size:Int) == 0)=false:=by simpa using t1
 have t3:¬ T=ByteArray.empty:=fun e=>by rw[e] at hz;exact absurd hz (Nat.not_lt_zero _)
 have t4:(0:Int)<(T.size:Int):=by omega
 have t5:¬ T.toList=[]:=by rw[ByteArray.toList_eq];intro hc;exact t3 (QE (by show T.data.toList.length=0;rw[hc];rfl))
 have t6:(!T.toList.isEmpty)=true:=by simpa using t5
 subst h0
 exact quw):p:=h
theorem qsu {p:Prop} (h:p:=by
 go_enter Tryz.func210,Tryz.ntmps210
 go_wp2_with (first | (go_at_call 212;refine(HS.out _).mono ?_;rintro e w' ⟨rfl,rfl⟩) | (go_at_call 213;refine(HR.out _).mono ?_;rintro e w' ⟨rfl,rfl⟩) | (go_at_call 221;refine(j6 _).mono ?_;rintro e w' ⟨rfl,rfl⟩))
 exact bodyPost_ret (v:=.tuple #[.float .f64 0,.int .i64 s.size,.nilIface]) (by simp[results,Tryz.results121,go_sem]) rfl ⟨rfl,Below.refl _ _⟩):p:=h
theorem qp1 {p:Prop} (h:p:=by
 rintro e w2 ⟨rfl,rfl⟩
 go_wp2_with fail
 refine(H101.out _).mono ?_
 rintro e w2 ⟨rfl,rfl⟩
 go_wp2_with fail
 refine(HE.out _).mono ?_
 rintro e w2 ⟨rfl,rfl⟩
 go_wp2_with fail
 go_loopw [6] (fun iv wx=>∃ k:Nat,k≤z∧iv = .int .i64 k∧k+digN (s.data.toList.drop k)=z∧wx=w2) (fun iv _=>z-(intOf iv).toNat)
 case atStart=>exact⟨j+1+1,by have:=HZ.out;omega,by go_num,HZ.out,rfl⟩
 case round =>exact qwC):p:=h
theorem qpQ {p:Prop} (h:p:=by
 have e:b*(2*K)=2*(b*K):=by ac_rfl
 rw[e]
 rcases Nat.lt_trichotomy v K with h | h | h
 · have h1:b*v+b≤b*K:=by rw[← Nat.mul_succ];exact Nat.mul_le_mul_left b h
   exact qnV
 · subst h
   exact qnV
 · have h1:b*K+b≤b*v:=by rw[← Nat.mul_succ];exact Nat.mul_le_mul_left b h
   exact qnV):p:=h
theorem qeO {p:Prop} (h:p:=by
 go_wp2_with fail
 go_ret2
 exact⟨by rw[HV.out];rfl,HBE.out⟩):p:=h
theorem qtM {p:Prop} (h:p:=by
 rw[h101] at H101
 have HV:=zxi (And.intro HV0.out (show qcv (s.data.toList.drop j)=0 by rw[HX.out,h101,if_neg zxs]))
 clear h101
 go_wp2_with fail
 refine(HCj.out _).mono ?_
 rintro e w2 ⟨rfl,rfl⟩
 go_wp2_with fail
 refine(H43.out _).mono ?_
 rintro e w2 ⟨rfl,rfl⟩
 go_wp2_with fail
 refine(H45.out _).mono ?_
 exact qr6):p:=h
theorem qgC {p:Prop} (h:p:=by
 go_wp2_with fail
 go_ret2
 exact⟨rfl,Below.refl _ _⟩):p:=h
theorem qlb {p:Prop} (h:p:=by
 rw[hru] at HR
 go_wp2_with (go_at_call 246;refine HR.out.mono ?_;rintro e w' ⟨rfl,rfl⟩)
 go_ret
 refine⟨?_,rfl⟩
 rw[← HM.out,hru]
 rfl):p:=h
theorem qrN {p:Prop} (h:p:=by
 go_enter Tryz.func13,Tryz.ntmps13
 go_wp2_with (first | (go_at_call 14;go_must (refine HD.out.mono ?_);rintro e wA ⟨rfl,hbA⟩;have HA:=zxi hbA;clear e0 e1 e2 e3 e4 e5;obtain⟨-,e0,e1,e2,e3,e4,e5⟩:=qh HX.out hbA;clear hbA) | (go_at_call 43;go_must (refine(HF.out _ HA.out).mono ?_);rintro e wB ⟨rfl,hbB⟩))
 go_ret
 exact⟨rfl,qa HB.out (qa HA.out hbB)⟩):p:=h
theorem qqv {p:Prop} (h:p:=by
 have q0:((c.toNat:Int) == 224)=false:=beq_eq_false_iff_ne.2 zxo
 have q1:((c.toNat:Int) == 237)=false:=beq_eq_false_iff_ne.2 zxo
 have q2:((c.toNat:Int) == 240)=false:=beq_eq_false_iff_ne.2 zxo
 have q3:((c.toNat:Int) == 244)=false:=beq_eq_false_iff_ne.2 zxo
 have HV:=zxi (show qW (s.data.toList.drop k)=0 by rw[hv];rfl)
 clear hv c1 c2
 exact qhu):p:=h
theorem qgG {p:Prop} (h:p:=by
 subst h;simp[QP,qJ,qL,qK,jh,Tree.kind,Tree.name,Tree.kids,qN]):p:=h
theorem qo4 {p:Prop} (h:p:=by
 simp[QP,qJ,qL,qK,jh,Tree.kind,Tree.name,Tree.kids,qbJ]):p:=h
theorem qoE {p:Prop} (h:p:=by
 have hsh2:(s.size:Int)≤(k:Int)+2:=by omega
 have HV:=zxi (show qW (s.data.toList.drop k)=0 by rw[hv,qbt (by show R.length<2;omega)];rfl)
 clear hv c1 c2 hR hget
 exact qhu):p:=h
theorem qnz {p:Prop} (h:p:=by
 have hsh2:(s.size:Int)≤(k:Int)+3:=by omega
 have HV:=zxi (show qW (s.data.toList.drop k)=0 by rw[hv,qbt (by show R.length<3;omega)];rfl)
 clear hv c1 c2 hR hget
 exact qhu):p:=h
theorem qxE {p:Prop} (h:p:=by
 have e1:(qn x).toList=s.toList:=by rw[he,jE]
 exact qrt):p:=h
theorem qnD {p:Prop} (h:p:=by
 clear h
 go_wp2_with fail
 go_roundw
 case rel=>exact⟨k+1,many,acc,last,by omega,by go_num,rfl,HLN.out,HO.out,HV.out,HBE.out,by omega,by omega⟩
 case measure=>simp only[intOf];omega):p:=h
theorem qii {p:Prop} (h:p:=by
 subst h9;simp[QP,qJ,qL,qK,jh,Tree.kind,Tree.name,Tree.kids,qbJ]):p:=h
theorem qxj {p:Prop} (h:p:=by
 have q1:((mant:Int) != 0)=true:=by simp;omega
 exact qtt):p:=h
theorem qiZ {p:Prop} (h:p:=by
 go_enter Tryz.func246,Tryz.ntmps246
 go_wp2_with fail
 go_ret
 refine⟨?_,rfl⟩
 rw[HR.out]
 rfl):p:=h
theorem qkr {p:Prop} (h:p:=by
 go_simp
 refine zKK hKK HKP fun hHeld2=>?_;clear hKK KK hHeld;rename _=>hHeld
 refine zRd 0 (h:=fun KK hKK=>?_)
 exact qw1):p:=h
theorem qkv {p:Prop} (h:p:=by
 go_simp
 refine zKK hKK HKP fun hHeld2=>?_;clear hKK KK hHeld;rename _=>hHeld
 refine zRd 1 (h:=fun KK hKK=>?_)
 exact qw1):p:=h
theorem qag {p:Prop} (h:p:=by
 simp[QP,qJ,qL,Tree.kind,h]):p:=h
theorem qub {p:Prop} (h:p:=by
 have HB:=zxi hb
 have HLi:=zxi (HLEN.out i)
 obtain⟨X,hX⟩:∃ X,qM 0 (ALL.data.toList.take i)=X:=⟨_,rfl⟩
 rw[hX] at hr HLi ⊢
 have HX:=zxi hX
 have HR:=zxi hr
 clear hb hX hr
 by_cases hlt:i<ALL.size
 · obtain⟨x,hx⟩:∃ x,ALL[i]=x:=⟨_,rfl⟩
   exact qw2
 · obtain rfl:i=ALL.size:=by omega
   exact qwZ):p:=h
theorem qoc {p:Prop} (h:p:=by
 rcases hg2 with hg | hg<;>rw[hg] at h'<;>rcases h with⟨h1,h2⟩ | ⟨h1,h2,h3⟩ | ⟨h1,h2,h3⟩<;>rcases h' with⟨k1,k2⟩ | ⟨k1,k2,k3⟩ | ⟨k1,k2,k3⟩<;>omega):p:=h
theorem qrF {p:Prop} (h:p:=by
 rw[hd] at HM
 clear hsg
 rw[hsgv] at hdle hV1
 have HSZ:=zxi hXs
 by_cases hd0:d=0
 · subst hd0
   have HV:=zxi (show Qm s.data.toList=(4,m) from hV1)
   clear hV1 hd hXl hsgv c1 c2
   exact qvR
 · have hdp:(0:Int)<(d:Int):=by omega
   rw[if_neg hd0] at hV1
   have HV:=zxi hV1
   clear hV1 hd hXl hsgv c1 c2
   exact qwl):p:=h
theorem qtd {p:Prop} (h:p:=by
 go_wp2_with fail
 go_ret
 exact⟨qi HV.out.symm,HB0.out⟩):p:=h
theorem qoA {p:Prop} (h:p:=by
 have b5:((c.toNat:Int) == 95)=false:=beq_eq_false_iff_ne.2 zxo
 have hv:jb c=false:=by simp[jb];omega
 rw[hv]
 exact qjO):p:=h
theorem qqQ {p:Prop} (h:p:=by
 go_wp2_with fail
 refine(HNK.out _).mono ?_
 rintro e w3 ⟨⟨k',tx,a,b,rfl,hok⟩,hb3⟩
 have HB3:=zxi (HBE.out.trans (hb3.mono HBE.out.size))
 have hs3:=hb3.size
 clear hok hb3
 unfold qcm
 go_wp2_with fail
 go_ret3
 refine⟨?_,HB3.out.alloc (Nat.le_trans HBE.out.size hs3) _⟩
 unfold qal
 rw[HV.out]
 exact rfl):p:=h
theorem qtV {p:Prop} (h:p:=by
 have hga:s[a]'ha1=c1:=by
  exact qeZ
 have p4:¬ (a:Int)=(s.size:Int):=by omega
 have p5:((a:Int) == (s.size:Int))=false:=by simpa using p4
 have p8:(a:Int)<(s.size:Int):=by omega
 have p6:¬ (c1.toNat:Int)=46:=QW h46
 have p7:((c1.toNat:Int) != 46)=true:=by simpa using p6
 clear hc1 h46
 clear hr0 hc0
 exact qj7):p:=h
theorem qdV {p:Prop} (h:p:=by
 go_wp2_with fail
 go_meet
 case rel=>exact⟨rfl,zR _⟩):p:=h
theorem qew {p:Prop} (h:p:=by
 go_ret
 exact⟨qi HV.out.symm,hb⟩):p:=h
theorem qkP {p:Prop} (h:p:=by
 have hne:c0≠48:=fun e=>hz (by rw[hc0,e])
 have:¬ c0.toNat=48:=fun e=>hne (UInt8.toNat_inj.1 e)
 simp;omega):p:=h
theorem qpM {p:Prop} (h:p:=by
 have hle:d*10+k≤V:=by rw[← hnx,← HV.out];exact qc9 _ _
 have HN:=zxi hnx
 clear hnx hcd hc1
 have hlt2:(i:Int)<(s.size:Int):=by omega
 go_wp2_with fail
 refine⟨⟨i+1,d*10+k,by go_num,by go_num,by omega,by omega,HN.out.symm,by omega,by first | rfl | trivial⟩,by simp[intOf];omega⟩):p:=h
theorem qpS {p:Prop} (h:p:=by
 have HN2:=zxi (HN1.out.later hb3)
 obtain⟨d0,d1,d2,d3,dz,dl⟩:=qq HN2.out.t
 obtain⟨e0,e1,e2,e3,ez,el⟩:=qq HN2.out.r
 clear hb3
 go_wp2_with fail
 exact jN HN2.out.r zxn HN2.out.b (jU (k:=0) (t:=⟨#[]⟩) (a:=0) (b:=0) HV.out (fun h=>absurd h he0)) rfl rfl):p:=h
theorem qtu {p:Prop} (h:p:=by
 have HB:=zxi hb
 have HLi:=zxi (HLEN.out i)
 obtain⟨X,hX⟩:∃ X,qM 0 (ALL.data.toList.take i)=X:=⟨_,rfl⟩
 rw[hX] at hr HLi ⊢
 have HX:=zxi hX
 have HR:=zxi hr
 clear hb hX hr
 by_cases hlt:i<ALL.size
 · exact zz8
 · obtain rfl:i=ALL.size:=by omega
   exact qw3):p:=h
theorem qkw {p:Prop} (h:p:=by
 go_wp2_with fail
 go_ret
 exact⟨⟨_,rfl,_,rfl,HX.out⟩,(Below.refl _ _).alloc zxn _⟩):p:=h
theorem qo6 {p:Prop} (h:p:=by
 rintro e w2 ⟨rfl,rfl⟩
 go_wp2_with fail
 go_roundw
 case rel=>exact⟨k+1,hk1,by go_num,HK.out,trivial⟩
 case measure=>simp only[intOf];omega):p:=h
theorem qr0 {p:Prop} (h:p:=by
 refine zTn 14 (h:=?_)
 refine zTn 15 (h:=?_)
 refine zTn 16 (h:=?_)
 refine zTn 17 (h:=?_)
 refine zTk 18 (h:=?_)
 refine zTk 19 (h:=?_)
 exact qe1):p:=h
theorem qj5 {p:Prop} (h:p:=by
 rcases Nat.lt_or_ge k l.length with h | h
 · exact h
 · rw[List.getElem?_eq_none h] at hx;cases hx):p:=h
theorem qtU {p:Prop} (h:p:=by
 go_wp2_with (first | (go_at_call 42;refine HT.out.mono ?_;rintro e wA ⟨⟨rb,rfl,hmb⟩,hbA⟩;unfold RN.val) | (go_at_call 13;refine(HC.out _ hbA _ hmb).mono ?_;rintro e wB ⟨rfl,hbB⟩))
 go_ret
 exact⟨qi (by simp[*]),qa HB.out (qa hbA hbB)⟩):p:=h
theorem qrU {p:Prop} (h:p:=by
 go_wp2_with (first | (go_at_call 42;refine HT.out.mono ?_;rintro e wA ⟨⟨rb,rfl,hmb⟩,hbA⟩;unfold RN.val) | (go_at_call 13;refine(HC.out _ hbA _ hmb).mono ?_;rintro e wB ⟨rfl,hbB⟩))
 go_ret
 exact⟨qi zxs,qa HB.out (qa hbA hbB)⟩):p:=h
theorem qef {p:Prop} (h:p:=by
 simp[QP,qJ,qL,Tree.kind,h,h9]):p:=h
theorem qqm {p:Prop} (h:p:=by
 go_round
 case rel=>exact⟨k+1,by omega,by go_num,rfl,by rw[HST.out];push_cast [HCV.out];first | rfl | (congr 1;omega),by rw[HST.out],by rw[HST.out],by rw[HST.out],by rw[HST.out];go_num,by rw[HST.out];go_num,by rw[HST.out]⟩
 case measure=>simp[intOf];omega):p:=h
theorem qpY {p:Prop} (h:p:=by
 go_wp2_with fail
 go_ret
 exact⟨rfl,HB0.out⟩):p:=h
theorem qjR {p:Prop} (h:p:=by
 intro w hSw;(try dsimp only at hSw);go_simp
 all_goals with_reducible rfl):p:=h
theorem quc {p:Prop} (h:p:=by
 obtain rfl:j=m:=by omega
 obtain⟨-,e0,e1,e2,e3,e4,e5⟩:=qh HX.out HB1.out
 go_wp2_with (go_at_call 58;go_must (refine(HF.out _ HB1.out _ HR1.out).mono ?_);rintro e wC ⟨rfl,hbC⟩)
 go_ret
 exact⟨rfl,qa HB.out (qa HB1.out hbC)⟩):p:=h
theorem qs5 {p:Prop} (h:p:=by
 have e0:(qC 0).length=0:=by rw[qS];rfl
 have HR0:=zxi (show RES = .tuple #[.int .u64 0,.int .i64 0] by rw[← HRES.out,qhp,if_neg zxd];rfl)
 rw[e0]
 clear e0
 go_wp2_with fail
 go_ret2
 rw[HR0.out]
 exact⟨rfl,HB.out⟩):p:=h
theorem qrp {p:Prop} (h:p:=by
 have hok:=HOK.out k hk
 have g1:=hok.ndm
 have g2:=hok.le
 have g3:=hok.nd
 have g4:=hok.dp0
 have g5:=hok.dp1
 have gm:=hok.lt
 have gm18:=hok.lt18
 have hk60:k≤60:=by omega
 by_cases hlt:k<P
 · exact zz0
 · obtain rfl:k=P:=by omega
   exact qwi):p:=h
theorem qlT {p:Prop} (h:p:=by
 have:=Option.some.inj ((hget 1 zxo).symm.trans (h.hex hz))
 rw[← e1];exact this):p:=h
theorem qiH {p:Prop} (h:p:=by
 show(jD w).cell? _=_
 rw[cell_of_row _ _ _ _ _ _ HROW.out];rfl):p:=h
theorem qqn {p:Prop} (h:p:=by
 go_roundw
 case rel=>exact⟨j+1,by omega,by go_num,fun c hc=>by
  rw[qdx HG.out] at hc
  rcases List.mem_append.1 hc with h | h
  · exact HA.out c h
  · simp at h;rw[h];exact HX.out,trivial⟩
 case measure=>simp only[intOf];omega):p:=h
theorem qxs {p:Prop} (h:p:=by
 rw[Jc H46.out (fun e=>hcn e.1) hm] at hst
 exact qta):p:=h
theorem qkq {p:Prop} (h:p:=by
 refine⟨?_,h.len⟩
 rw[qbd h.heap]
 simp[qb3,List.set_append_right,h.len]):p:=h
theorem qpB {p:Prop} (h:p:=by
 go_enter Tryz.func223,Tryz.ntmps223
 go_wp2_with fail
 go_ret2
 exact⟨rfl,⟨rfl,rfl,rfl,Nat.le_refl _,fun _ _=>rfl⟩⟩):p:=h
theorem qtD {p:Prop} (h:p:=by
 rw[Nat.zero_add] at c0 c1
 go_wp2_with fail
 go_roundw
 case rel=>exact⟨j+1,by omega,by go_num,by rw[qU HR1.out,qny _ _ zxo],HB1.out.setCell (p:=⟨g,j,none⟩) HG.out _⟩
 case measure=>simp only[intOf];omega):p:=h
theorem qqL {p:Prop} (h:p:=by
 have h1:x*lo≤18446744073709551615*18446744073709551615:=Nat.mul_le_mul zxo zxo
 have:x*lo/18446744073709551616≤18446744073709551615*18446744073709551615/18446744073709551616:=Nat.div_le_div_right h1
 omega):p:=h
theorem qrW {p:Prop} (h:p:=by
 go_simp
 refine zKK hKK HKP fun hHeld2=>?_;clear hKK KK hHeld;rename _=>hHeld
 refine zRd 7 (h:=fun KK hKK=>?_)
 go_simp
 (refine(qfu _ _ _ _).mono ?_;rintro e wC ⟨⟨lbC,rfl,hC⟩,hbC⟩)
 (try go_wp2_with fail)
 exact qwF):p:=h
theorem qgN {p:Prop} (h:p:=by
 rw[if_pos zxo];exact(qqp zxd q).symm):p:=h
theorem qpR {p:Prop} (h:p:=by
 simp only at ht1
 split at ht1
 · simp only[Option.some.injEq] at ht1
   exact qpW
 · cases ht1):p:=h
theorem ql0 {p:Prop} (h:p:=by
 rw[cell_of_row _ _ _ _ _ _ h.heap]
 simp[qb3,List.getElem?_append_right,h.len]):p:=h
theorem qp0 {p:Prop} (h:p:=by
 obtain⟨k,f,e,a,n,l⟩:=x
 change k=11 at hkd
 subst hkd
 show isR qc qw _ 11=((qc n&&decide ((11:Int)=11)&&qx [Qh [RR 8,RR 0],Qh [RR (eC 1 false),RR 0]] l)&&qmo l)
 rw[qvO,Qf,Qf]
 simp
 rfl):p:=h
theorem qsf {p:Prop} (h:p:=by
 rw[Nat.testBit_eq_decide_div_mod_eq,show(2:Nat)^52=4503599627370496 by decide] at h
 rw[h]
 by_cases hl:m<4503599627370496
 · rw[if_pos hl,decide_eq_false zxo];rfl
 · rw[if_neg hl,decide_eq_true zxo];rfl):p:=h
theorem qsS {p:Prop} (h:p:=by
 have hdb:=qgw HC.out j
 have HV2:=zxi (show jc (.mk k f en a n l)=jM (l.take j)+1 by rw[HV.out,List.take_of_length_le zxo])
 go_wp2_with fail
 go_ret
 refine⟨by rw[HV2.out];go_num,HB1.out⟩):p:=h
theorem qqj {p:Prop} (h:p:=by
 refine qph _ K 126 hK zxd zxd ?_
 have h1:=qhx j zxo
 calc d*10^j≤2^52*2^74:=Nat.mul_le_mul (by rw[show(2:Nat)^52=4503599627370496 by decide];omega) h1
  _=2^126:=by rw[← Nat.pow_add]):p:=h
theorem qsy {p:Prop} (h:p:=by
 have bj:((j:Int) == 0)=false:=beq_eq_false_iff_ne.2 zxo
 have HR:=zxi (show qP 27 H (l.take (j+1))=qP 27 H (l.take j)++[[101]] from by rw[jw HXX.out zxd];simp[qnI,j0])
 exact qrv):p:=h
theorem qqC {p:Prop} (h:p:=by
 clear ho2 hg2 hat2
 go_roundw
 case rel=>exact⟨i+1+1,gs++[(wr.heap.size,1)],_,by omega,by rw[List.length_append,List.length_singleton];omega,by go_num,rfl,HP.out.1,HP.out.2⟩
 case measure=>simp only[intOf];omega):p:=h
theorem qsH {p:Prop} (h:p:=by
 obtain rfl:i=s.size:=by omega
 have hv:d=V:=by rw[HDV.out,← HV.out,List.take_of_length_le (by rw[List.length_drop];exact Nat.le_refl _)]
 subst hv
 clear HDV
 go_wp2_with fail
 go_ret2
 rw[HR2.out]
 exact⟨rfl,rfl⟩):p:=h
theorem qiM {p:Prop} (h:p:=by
 exact qaU HA3.out zxn HB3.out HO.out rfl rfl):p:=h
theorem qnQ {p:Prop} (h:p:=by
 go_ret
 exact⟨qi (by simp[*]),qa HB.out hbA⟩):p:=h
theorem qq7 {p:Prop} (h:p:=by
 obtain rfl:m=z:=by omega
 clear hmz hmm hm
 go_wp2_with fail
 go_roundw
 case rel=>exact⟨m,many,acc,last,by omega,rfl,rfl,HLN.out,HO.out,HV.out,HBE.out,by omega,by omega⟩
 case measure=>simp only[intOf];omega):p:=h
theorem qp4 {p:Prop} (h:p:=by
 refine zTk 6 (h:=?_)
 refine zTk 7 (h:=?_)
 refine zTn 8 (h:=?_)
 refine zTn 9 (h:=?_)
 refine zTn 10 (h:=?_)
 refine zTn 11 (h:=?_)
 refine zTn 12 (h:=?_)
 refine zTk 13 (h:=?_)
 refine zTk 14 (h:=?_)
 exact qe1):p:=h
theorem qkt {p:Prop} (h:p:=by
 rw[isE qc qw _ _ _ _ _ _ c head h1c h7c]
 simp[QX]):p:=h
theorem qmN {p:Prop} (h:p:=by
 clear hv
 go_enter Tryz.func160,Tryz.ntmps160
 go_wp2_with fail
 go_ret
 refine⟨?_,rfl⟩
 rw[HV.out];rfl):p:=h
theorem qrX {p:Prop} (h:p:=by
 refine(Tryz.strings_IndexByte cs (x.toNat:Int) w).mono ?_
 rintro e w' ⟨rfl,rfl⟩
 refine⟨⟨_,rfl,?_⟩,rfl⟩
 have:=qgE cs.data.toList x
 rw[h] at this
 rw[qjw]
 simpa using this):p:=h
theorem qnb {p:Prop} (h:p:=by
 go_wp2_with fail
 first | go_ret | (rw[Exit.noGoto_ret];go_ret)
 exact⟨jB (by rw[HE.out]),rfl⟩):p:=h
theorem qxI {p:Prop} (h:p:=by
 constructor
 · intro h2;omega
 · intro h2;omega):p:=h
theorem qk3 {p:Prop} (h:p:=by
 rcases HBY.out with h1 | ⟨h1,_⟩
 · exact h1
 · exact absurd h1 h46):p:=h
theorem qrE {p:Prop} (h:p:=by
 have hsz:0<cs.size:=by rw[← Array.length_toList,hcs];simp
 rw[Qc (by kernel_rfl) hvar 0 hsz]
 have:cs=#[.slice (some a) 23 cap]:=by rw[← Array.toList_inj];exact hcs
 subst this;rfl):p:=h
theorem qqy {p:Prop} (h:p:=by
 refine zTk 11 (h:=?_)
 refine zTk 12 (h:=?_)
 refine wpAnyH_done (by kernel_rfl) ?_ _
 have HE:=qa HB.out hHeld.1
 clear hHeld
 go_wp2_with fail
 go_ret
 exact⟨qi zxs,HE⟩):p:=h
theorem qtb {p:Prop} (h:p:=by
 apply Nat.eq_of_testBit_eq
 intro j
 rw[Nat.testBit_and,Nat.testBit_two_pow]
 by_cases h:i=j
 · subst h
   cases hn:n.testBit i<;>simp
 · cases hn:n.testBit i<;>simp[h,Nat.testBit_two_pow]):p:=h
theorem qxd {p:Prop} (h:p:=by
 have hm18:=gm18 hm
 exact qsq):p:=h
theorem qlj {p:Prop} (h:p:=by
 rw[hr,List.map_cons,List.map_replicate,qbJ,qbJ,qx,jm]
 simp):p:=h
theorem qsQ {p:Prop} (h:p:=by
 go_enter Tryz.func187,Tryz.ntmps187
 go_wp2_with fail
 go_quiet ((go_at_call 101;exact Calls.quiet_of_same (qfS _ _)))
 go_wp2_with fail
 go_ret2
 exact⟨by rw[HV.out];rfl,_,rfl⟩):p:=h
theorem qq1 {p:Prop} (h:p:=by
 clear hWq
 go_wp2_with fail
 go_roundw
 case rel=>exact⟨j,er,kd,b,by omega,by go_num,rfl,by rw[HP.out];exact HBE.out,HNQ.out,HMQ.out,hbl⟩
 case measure=>simp only[intOf];omega):p:=h
theorem qnN {p:Prop} (h:p:=by
 rw[Nat.div_eq_iff hb]
 have h1:=h.lo;have h3:=h.hi
 rw[Nat.pow_zero,Nat.succ_mul] at h3
 omega):p:=h
theorem qg8 {p:Prop} (h:p:=by
 go_ret
 exact⟨rfl,qa HB.out hb2⟩):p:=h
theorem qf7 {p:Prop} (h:p:=by
 go_ret
 exact⟨rfl,qa HB.out hbA⟩):p:=h
theorem qre {p:Prop} (h:p:=by
 have e0:qC (qM 0 (ALL.data.toList.take 0))=[]:=qS
 exact⟨0,0,none,by rw[e0];rfl,rfl,Nat.zero_le _,by rw[e0];exact RowOf.nil_,qQ (Below.refl _ _) _⟩):p:=h
theorem qxh {p:Prop} (h:p:=by
 simp only[Option.some.injEq] at ht1
 exact qpW):p:=h
theorem qsN {p:Prop} (h:p:=by
 obtain⟨c',D',dp',hm,hh,hd,hl,hz,h8,hR,hlo,hhi,hb⟩:=hs
 have hv:=hR.valE h.val
 exact⟨c',D',dp',⟨hm,hh,hd,hl,hB.len hv h1 h2 hd hl hz,hv⟩,hz,hlo,hhi,hb⟩):p:=h
theorem qgX {p:Prop} (h:p:=by
 rw[if_neg zxo];exact(qrT q).symm):p:=h
theorem qus {p:Prop} (h:p:=by
 have HG:=zxi hG
 clear hG
 by_cases ht:G=9218868437227405312
 · have HR0:=zxi (show RES = .tuple #[.int .u64 0,.int .i64 3] by rw[← HRES.out,if_pos ht])
   exact qtm
 · have HR0:=zxi (show RES = .tuple #[.int .u64 (G:Nat),.int .i64 0] by rw[← HRES.out,if_neg ht])
   exact qs7):p:=h
theorem quD {p:Prop} (h:p:=by
 have HR0:=zxi (show RES = .tuple #[.int .u64 (G:Nat),.int .i64 0] by rw[← HRES.out,if_neg ht])
 exact qs7):p:=h
theorem quL {p:Prop} (h:p:=by
 have HR0:=zxi (show RES = .tuple #[.int .u64 0,.int .i64 3] by rw[← HRES.out,if_pos ht])
 exact qtm):p:=h
theorem qsY {p:Prop} (h:p:=by
 have e2:((qn x).toList == s.toList)=false:=by simpa using e1
 have HE:=zxi he
 clear he
 go_wp2_with fail
 go_roundw
 case rel=>exact⟨j+1,by omega,by go_num,fun j' z hz hj'=>by
  rcases Nat.lt_or_ge j' j with h1 | h1
  · exact HNO.out j' z hz h1
  · obtain rfl:j'=j:=by omega
    have e:=HX.out
    rw[hz] at e
    cases e
    exact HE.out,q,rfl⟩
 case measure=>simp only[intOf];omega):p:=h
theorem qrs {p:Prop} (h:p:=by
 clear hE hR1 hc1 h46 hk1 hr1 hb0 hk2 hk2s
 clear hr0 hc0
 go_enter Tryz.func130,Tryz.ntmps130
 go_wp2_with fail
 refine HRUN0.out.mono ?_
 rintro e wx ⟨rfl,rfl⟩
 go_wp2_with fail
 refine HRUN1.out.mono ?_
 rintro e wx ⟨rfl,rfl⟩
 go_wp2_with fail
 refine(HE.out _).mono ?_
 rintro e wx ⟨rfl,rfl⟩
 exact qgC):p:=h
theorem qrt {p:Prop} (h:p:=by
 have e2:((qn x).toList == s.toList)=true:=by rw[e1];simp
 generalize qn x=y at hc e1 e2
 have hv:jp l s.data.toList=true:=by unfold jp;rw[List.contains_iff_mem,← he];exact List.mem_of_getElem? HX.out
 have HVV:=zxi hv
 clear hv he
 go_wp2_with fail
 go_ret
 exact⟨qi HVV.out.symm,_,rfl⟩):p:=h
theorem qtt {p:Prop} (h:p:=by
 go_wp2_with fail
 first | rw[Exit.noGoto_ret] | skip
 exact bodyPost_ret (v:=.tuple #[.int .u64 mant,.int .i64 (dp+v-ndm),.bool false,.bool trunc,.bool false,.int .i64 s.size,.bool true]) (by simp[results,Tryz.results135,go_sem]<;>omega) rfl ⟨by rw[HSG.out,HQQ.out,HVV.out,HEX.out,if_neg hm0],rfl⟩):p:=h
theorem qt2 {p:Prop} (h:p:=by
 first | rw[Exit.noGoto_ret] | skip
 exact bodyPost_ret (v:=.tuple #[.int .u64 mant,.int .i64 (dp + -v-ndm),.bool false,.bool trunc,.bool false,.int .i64 s.size,.bool true]) (by simp[results,Tryz.results135,go_sem]<;>omega) rfl ⟨by rw[HSG.out,HQQ.out,HVV.out,HEX.out,if_neg hm0],rfl⟩):p:=h
theorem qtl {p:Prop} (h:p:=by
 go_wp2_with fail
 first | rw[Exit.noGoto_ret] | skip
 exact bodyPost_ret (v:=.tuple #[.int .u64 mant,.int .i64 (0),.bool false,.bool trunc,.bool false,.int .i64 s.size,.bool true]) (by simp[results,Tryz.results135,go_sem]<;>omega) rfl ⟨by rw[HSG.out,HEX.out,if_pos hm0],rfl⟩):p:=h
theorem qov {p:Prop} (h:p:=by
 go_enter Tryz.func73,Tryz.ntmps73
 go_wp2_with (first | (go_at_call 88;refine HS.out.mono ?_;rintro e w' ⟨rfl,hb⟩))
 exact qew):p:=h
theorem qio {p:Prop} (h:p:=by
 go_wp2_with fail
 go_ret
 exact⟨jB (by rw[HW.out];rfl),rfl⟩):p:=h
theorem qqG {p:Prop} (h:p:=by
 by_cases h:k=25
 · subst h;simp[QP,qJ,qL,qK,jh,Tree.kind,Tree.name,QX,qN]
 by_cases h9:k=26
 · subst h9;simp[QP,qJ,qL,qK,jh,Tree.kind,Tree.name,QX,qbJ,eC]
 · exact qef):p:=h
theorem qta {p:Prop} (h:p:=by
 have HST:=zxi hst
 have k7:¬ (ndm:Int)<19:=by omega
 have HTR:=zxi (show(trunc||decide (c≠48))=true by simp[hcn])
 clear hst hm gm18 hcv h48 hcn
 go_wp2_with fail
 exact qo8):p:=h
theorem qsq {p:Prop} (h:p:=by
 rw[qa2 H46.out (fun e=>hcn e.1) hm] at hst
 have HST:=zxi hst
 have k7:(ndm:Int)<19:=by omega
 have HCV:=zxi hcv
 clear hst hm gm18 hcv h48 hcn
 exact qto):p:=h
theorem qrz {p:Prop} (h:p:=by
 have h3:((l.length:Int) == r.length)=false:=by simpa using h1
 clear h
 go_enter Tryz.func164,Tryz.ntmps164
 exact qpw):p:=h
theorem qpe {p:Prop} (h:p:=by
 rw[← Nat.pow_add,← Nat.pow_add]
 exact Nat.pow_le_pow_right zxd zxo):p:=h
theorem qtN {p:Prop} (h:p:=by
 rcases ho with ho | ho
 all_goals
  go_enter Tryz.func223,Tryz.ntmps223
  go_wp2_with fail
  go_ret2
  exact⟨rfl,⟨rfl,rfl,rfl,Nat.le_refl _,fun _ _=>rfl⟩⟩):p:=h
theorem qp6 {p:Prop} (h:p:=by
 clear hval
 go_wp2_with (go_at_call 161;refine HT.out.mono ?_;rintro e w' ⟨⟨A3,c3,rfl,hc3,hr3⟩,rfl⟩)
 go_ret
 exact⟨⟨A3,c3,rfl,hc3,hr3⟩,HBE.out⟩):p:=h
theorem qtI {p:Prop} (h:p:=by
 go_ret
 exact⟨qi (by simp[*]),qa HB.out zxq⟩):p:=h
theorem qpK {p:Prop} (h:p:=by
 have p5:((s.size:Int) == 0)=false:=by simpa using(show ¬ (s.size:Int)=0 by omega)
 have p6:¬ (s.size:Int)=0:=by omega
 subst hm
 clear hr0 hc0
 exact qj7):p:=h
theorem qtO {p:Prop} (h:p:=by
 rintro e w2 ⟨rfl,rfl⟩
 go_wp2_with fail
 refine(H101.out _).mono ?_
 rintro e w2 ⟨rfl,rfl⟩
 go_wp2_with fail
 refine(HE.out _).mono ?_
 exact qp8):p:=h
theorem qsA {p:Prop} (h:p:=by
 have hln:=HM.out.len
 obtain⟨z,hz⟩:∃ z,cc[p1]?=some z:=⟨_,List.getElem?_eq_getElem (show p1<cc.length by omega)⟩
 exact⟨z,HM.out.at_ hz⟩):p:=h
theorem qmV {p:Prop} (h:p:=by
 go_enter Tryz.func239,Tryz.ntmps239
 exact qpC):p:=h
theorem qjO {p:Prop} (h:p:=by
 go_enter Tryz.func59,Tryz.ntmps59
 exact qdi):p:=h
theorem qro {p:Prop} (h:p:=by
 (try go_wp2_with fail)
 refine zKK hKK HKP fun hHeld2=>?_;clear hKK KK hHeld;rename _=>hHeld
 refine zTk 18 (h:=?_)
 refine zTk 19 (h:=?_)
 exact qe1):p:=h
theorem qqZ {p:Prop} (h:p:=by
 rintro e w2 ⟨rfl,rfl⟩
 go_wp2_with fail
 go_ret2
 exact⟨by unfold qda;rw[HV.out];exact qa0 rfl (by have:=HA.out;simp only;omega),rfl⟩):p:=h
theorem qbN {p:Prop} (h:p:=by
 rw[hv];clear hv
 exact qsk):p:=h
theorem qs2 {p:Prop} (h:p:=by
 have hlt:=(List.getElem?_eq_some_iff.1 hm).1
 unfold qaT
 rw[List.drop_eq_getElem_cons hlt,(List.getElem?_eq_some_iff.1 hm).2,List.find?_cons,h]):p:=h
theorem qts {p:Prop} (h:p:=by
 (try go_wp2_with fail)
 refine zKK hKK HKP fun hHeld2=>?_;clear hKK KK hHeld;rename _=>hHeld
 refine zTk 7 (h:=?_)
 refine zTk 8 (h:=?_)
 exact qe1):p:=h
theorem qsd {p:Prop} (h:p:=by
 exact jN HN3.out.r zxn HN3.out.b (jU (k:=0) (t:=⟨#[]⟩) (a:=0) (b:=0) HV.out (fun h=>absurd h zxd)) rfl rfl):p:=h
theorem qlz {p:Prop} (h:p:=by
 have:=Option.some.inj (hc0.symm.trans hz)
 rw[this];rfl):p:=h
theorem qqx {p:Prop} (h:p:=by
 obtain⟨z,hz⟩:∃ z,cc[W.length]?=some z:=⟨_,List.getElem?_eq_getElem (show W.length<cc.length by omega)⟩
 exact⟨z,HM.out.at_ hz⟩):p:=h
theorem qtg {p:Prop} (h:p:=by
 have hv:qaR c=none:=by unfold qaR;rw[if_neg (by rw[hg];exact Bool.false_ne_true),if_neg zxo]
 rw[hv]
 clear hd hx ha hg
 exact qnB):p:=h
theorem qte {p:Prop} (h:p:=by
 rw[show(4503599627370496:Nat)=2^52 by decide,Nat.mul_comm q,← Nat.mul_assoc,← Nat.pow_add,show 52+((p/q).log2-52)=(p/q).log2 by omega]):p:=h
theorem qqM {p:Prop} (h:p:=by
 have b3:((c.toNat:Int) == 127)=true:=beq_iff_eq.2 zxo
 rw[if_pos (.inr c3)] at hv
 have HV:=zxi hv
 clear hv c1 c2 c3
 exact qeO):p:=h
theorem qpP {p:Prop} (h:p:=by
 have HV2:=zxi hv2
 have HV1:=zxi hv1
 clear hv2
 by_cases hjs:j<s.size
 · exact qxH
 · obtain rfl:j=s.size:=by omega
   exact qqU):p:=h
theorem qs1 {p:Prop} (h:p:=by
 rw[hd]
 clear hm hk h hd
 unfold RN.val
 go_enter Tryz.func54,Tryz.ntmps54
 go_wp2_with fail
 go_ret
 exact⟨qi (by simp[*]),HB.out⟩):p:=h
theorem qgZ {p:Prop} (h:p:=by
 rw[hv];clear hv
 clear hn
 exact qsk):p:=h
theorem qpL {p:Prop} (h:p:=by
 have:=Nat.shiftLeft_add_eq_or_of_lt (show 1<2^1 by decide) t
 rw[Nat.shiftLeft_eq,Nat.mul_comm,Nat.pow_one] at this
 exact this.symm):p:=h
theorem qpW {p:Prop} (h:p:=by
 rw[← ht1] at hb1
 simp only[DataW.lit.injEq,Lit.float.injEq] at hb1
 rename_i hk
 exact⟨by first | exact hk.1 | exact hk,hb1.2⟩):p:=h
theorem qoK {p:Prop} (h:p:=by
 have e:qY (.mk k f en a n l)=JA l+n.length+1:=by rw[qY]
 omega):p:=h
theorem qtR {p:Prop} (h:p:=by
 rw[p2]
 go_enter Tryz.func11,Tryz.ntmps11
 go_wp2_with (go_at_call 39;refine HT.out.mono ?_;rintro e wA ⟨rfl,hbA⟩)
 exact qnQ):p:=h
theorem qua {p:Prop} (h:p:=by
 rcases hz with h | h
 · exact .inl zxo
 · by_cases h2:(1:Int)<(a:Int)
   · exact .inr ⟨h2,QW h⟩
   · exact .inl h2):p:=h
theorem qqc {p:Prop} (h:p:=by
 go_enter Tryz.func114,Tryz.ntmps114
 go_wp2_with (go_at_call 135;refine HT.out.mono ?_;rintro e w2 ⟨rfl,hb⟩)
 exact qew):p:=h
theorem qsK {p:Prop} (h:p:=by
 go_enter Tryz.func136,Tryz.ntmps136
 go_wp2_with (go_at_fn 111;refine HO.out.mono ?_;rintro e wA ⟨rfl,hbA⟩)
 exact qnQ):p:=h
theorem qlK {p:Prop} (h:p:=by
 go_wp2_with fail
 go_ret
 exact⟨rfl,qex _ _⟩):p:=h
theorem qra {p:Prop} (h:p:=by
 rw[hv];clear hv
 unfold RN.val
 go_enter Tryz.func45,Tryz.ntmps45
 go_wp2_with (fail)
 all_goals (go_ret2;exact ro RowsM.of4)):p:=h
theorem qqb {p:Prop} (h:p:=by
 rw[hv];clear hv
 unfold RN.val
 go_enter Tryz.func45,Tryz.ntmps45
 go_wp2_with (fail)
 all_goals (go_ret2;exact ro RowsM.of2)):p:=h
theorem qmI {p:Prop} (h:p:=by
 rw[isE qc qw _ _ _ _ _ _ c head h1c h7c,qN]
 simp[QX]):p:=h
theorem qrO {p:Prop} (h:p:=by
 go_enter Tryz.func77,Tryz.ntmps77
 go_wp2_with (go_at_call 90;refine HT.out.mono ?_;rintro e w2 ⟨rfl,hb⟩)
 exact qew):p:=h
theorem qlp {p:Prop} (h:p:=by
 go_enter Tryz.func223,Tryz.ntmps223
 exact qgC):p:=h
theorem qkx {p:Prop} (h:p:=by
 go_enter Tryz.func154,Tryz.ntmps154
 exact qpY):p:=h
theorem qlk {p:Prop} (h:p:=by
 go_enter Tryz.func127,Tryz.ntmps127
 exact qtd):p:=h
theorem qkd {p:Prop} (h:p:=by
 go_enter Tryz.func127,Tryz.ntmps127
 exact qpY):p:=h
theorem qqd {p:Prop} (h:p:=by
 refine zTn 4 (h:=?_)
 refine zTn 5 (h:=?_)
 refine zTn 6 (h:=?_)
 refine zTk 7 (h:=?_)
 refine zTk 8 (h:=?_)
 exact qe1):p:=h
theorem qk4 {p:Prop} (h:p:=by
 go_enter Tryz.func61,Tryz.ntmps61
 exact qdi):p:=h
theorem qti {p:Prop} (h:p:=by
 have:¬ 9223372036854775808≤r:=by omega
 unfold pl sgn
 rw[decide_eq_false this,Nat.mod_eq_of_lt zxo]
 rfl):p:=h
theorem qpX {p:Prop} (h:p:=by
 have:=J0 m 4503599627370496 zxo zxd
 rw[qjn m hm,if_neg zxo] at this
 exact this):p:=h
theorem qs8 {p:Prop} (h:p:=by
 rcases Nat.lt_or_ge i len with h | h
 · exact h
 · rw[List.getElem?_eq_none (by simpa using h)] at hx;cases hx):p:=h
theorem qrY {p:Prop} (h:p:=by
 have b2:(c.toNat:Int)<32:=by omega
 rw[if_pos (.inl c2)] at hv
 have HV:=zxi hv
 clear hv c1 c2
 exact qeO):p:=h
theorem qsj {p:Prop} (h:p:=by
 rw[qvn qc qw _ _ _ _ _ _ zxs,qN]
 cases qc n<;>cases n.isEmpty<;>cases l.isEmpty<;>simp):p:=h
theorem qoP {p:Prop} (h:p:=by
 have:=Nat.div_add_mod a b
 rw[hm,Nat.mul_comm] at this;omega):p:=h
theorem qmY {p:Prop} (h:p:=by
 go_wp2_with fail
 go_ret
 exact⟨by rw[HV.out];rfl,HB.out⟩):p:=h
theorem qt6 {p:Prop} (h:p:=by
 by_cases h:9223372036854775808≤b
 · rw[decide_eq_true h];simp;omega
 · rw[decide_eq_false h];simp;omega):p:=h
theorem qrP {p:Prop} (h:p:=by
 go_enter Tryz.func74,Tryz.ntmps74
 go_wp2_with fail
 go_ret
 exact⟨qi (by rw[HV.out];simp),HB.out⟩):p:=h
theorem qsW {p:Prop} (h:p:=by
 go_enter Tryz.func174,Tryz.ntmps174
 go_wp2_with fail
 go_ret2
 exact⟨by rw[HV.out];rfl,Below.refl _ _⟩):p:=h
theorem qtA {p:Prop} (h:p:=by
 refine⟨b,off,g,lb,P,hA,hb,hP,?_,eg,hS⟩
 have:=hc i _ hv 0 _ rfl
 rw[Nat.mul_one] at this
 exact this):p:=h
theorem qqt {p:Prop} (h:p:=by
 refine(qm2 s w).mono ?_
 rintro e w' ⟨h1,h2⟩
 unfold qal at h1
 rw[h] at h1
 exact⟨h1,h2⟩):p:=h
theorem qrf {p:Prop} (h:p:=by
 rw[show(65536:Nat)=2^16 by decide,← Nat.pow_mul]
 exact Nat.pow_lt_pow_right zxd zxo):p:=h
theorem qsg {p:Prop} (h:p:=by
 go_enter Tryz.func17,Tryz.ntmps17
 go_wp2_with fail
 go_ret
 exact⟨qi HV.out.symm,HB.out _ _⟩):p:=h
theorem qp2 {p:Prop} (h:p:=by
 cases hc:s.data.toList.isEmpty
 · rfl
 · rw[List.isEmpty_iff] at hc;rw[hc] at hsz;simp at hsz;omega):p:=h
theorem qhg {p:Prop} (h:p:=by
 rename_i hn;rw[hd] at hn;cases hn):p:=h
theorem qtj {p:Prop} (h:p:=by
 have:=HM.out.set W.length (48+A) zxo
 rwa [show((48+A:Nat):Int)=(A:Int)+48 by omega] at this):p:=h
theorem qt3 {p:Prop} (h:p:=by
 refine zTk 20 (h:=?_)
 refine zTk 21 (h:=?_)
 refine zTk 22 (h:=?_)
 refine zTk 23 (h:=?_)
 exact qe1):p:=h
theorem qug {p:Prop} (h:p:=by
 rcases hb with hb | ⟨hb,rfl⟩
 · exact qbE hb
 · rw[QA zxo,QA hb];simp):p:=h
theorem qrm {p:Prop} (h:p:=by
 rw[← Nat.pow_add] at this
 exact Nat.le_trans (Nat.pow_le_pow_right zxd zxo) this):p:=h
theorem qqe {p:Prop} (h:p:=by
 rw[qT,qF]
 by_cases h:k=13
 · exact qcK
 by_cases h9:k=20
 · exact qii
 · exact qef):p:=h
theorem qnM {p:Prop} (h:p:=by
 go_ret
 exact⟨qi HV.out.symm,Below.refl _ _⟩):p:=h
theorem qq3 {p:Prop} (h:p:=by
 change l=[] at hkids
 subst hkd
 subst hkids
 show isR qc qw _ (eC c head)=false
 exact qkt):p:=h
theorem qrD {p:Prop} (h:p:=by
 rcases h.2 with⟨hv,_⟩ | ⟨g,cap,cur,hv,_⟩
 · exact⟨_,_,_,hv⟩
 · exact⟨_,_,_,hv⟩):p:=h
theorem qs0 {p:Prop} (h:p:=by
 rcases hdy with h | ⟨_,h⟩
 · rw[List.getElem?_eq_none zxo] at h;cases h
 · exact h):p:=h
theorem qn5 {p:Prop} (h:p:=by
 exact⟨by omega,by rw[beq_eq_false_iff_ne];omega⟩):p:=h
theorem qsL {p:Prop} (h:p:=by
 have:=HM.out.set p1 (48+R) zxo
 rwa [show((48+R:Nat):Int)=(R:Int)+48 by omega] at this):p:=h
theorem qrr {p:Prop} (h:p:=by
 go_wp2_with fail
 go_ret3
 refine⟨?_,Below.refl _ _⟩
 unfold qal;rw[HTV.out];exact rfl):p:=h
theorem qqk {p:Prop} (h:p:=by
 have:10^(s.size-Q)≤10^3:=Nat.pow_le_pow_right zxd (by have:=HQQ.out;omega)
 omega):p:=h
theorem qsJ {p:Prop} (h:p:=by
 clear hq
 go_enter Tryz.func64,Tryz.ntmps64
 go_wp2_with (fail)
 go_ret
 exact⟨rfl,HB.out⟩):p:=h
theorem qpV {p:Prop} (h:p:=by
 rw[List.drop_eq_getElem_cons h,List.getD_eq_getElem?_getD,List.getElem?_eq_getElem h];rfl):p:=h
theorem qrg {p:Prop} (h:p:=by
 unfold sgN;cases p with
 | nil=>simp
 | cons c q=>simp only[List.length_cons];split<;>omega):p:=h
theorem qqh {p:Prop} (h:p:=by
 rw[hlen2,List.getElem?_take] at hx
 split at hx
 · exact hk1 x hx zxo
 · cases hx):p:=h
theorem qs9 {p:Prop} (h:p:=by
 by_cases h1:n=QC
 · simp[h1]
 · by_cases h2:n=Qz
   · simp[h2]
   · simp[h1,h2]):p:=h
theorem qvC {p:Prop} (h:p:=by
 rw[List.getElem?_eq_none zxo] at h;cases h):p:=h
theorem qsZ {p:Prop} (h:p:=by
 have:10^(j-Q)≤10^2:=Nat.pow_le_pow_right zxd (by have:=HQQ.out;omega)
 omega):p:=h
theorem qpp {p:Prop} (h:p:=by
 have:=congrArg List.length eE
 simp at this
 omega):p:=h
theorem qnm {p:Prop} (h:p:=by
 unfold ja;rw[if_neg (by rw[hsz];omega),hbr]):p:=h
theorem qp3 {p:Prop} (h:p:=by
 go_wp2_with fail
 go_meet
 exact⟨by have:=HTD.out;congr 1;simp at this;omega,rfl⟩):p:=h
theorem qpv {p:Prop} (h:p:=by
 go_enter Tryz.func107,Tryz.ntmps107
 exact qdi):p:=h
theorem qoY {p:Prop} (h:p:=by
 go_enter Tryz.func154,Tryz.ntmps154
 exact qtd):p:=h
theorem qnV {p:Prop} (h:p:=by
 constructor
 · intro h2;omega
 · intro h2;omega):p:=h
theorem qls {p:Prop} (h:p:=by
 rcases hb with hb | hb | hb<;>omega):p:=h
theorem qt8 {p:Prop} (h:p:=by
 have h:ALL.size=S1.size+S2.size:=by rw[← hALL];exact ByteArray.size_append
 omega):p:=h
theorem qqO {p:Prop} (h:p:=by
 exact h.mono fun e w2 ⟨h1,h2⟩=>⟨⟨_,h1⟩,by rw[h2];exact Below.refl _ _⟩):p:=h
theorem qsD {p:Prop} (h:p:=by
 cases i with
 | none=>cases h
 | some j=>simp at h;exact⟨j,rfl,h.1,h.2.1,h.2.2⟩):p:=h
theorem qr6 {p:Prop} (h:p:=by
 rintro e w2 ⟨rfl,rfl⟩
 go_wp2_with fail
 refine(H101.out _).mono ?_
 exact qp8):p:=h
theorem qth {p:Prop} (h:p:=by
 have e:10^D.length*10^(delta-1)*5^k=5^k*10^D.length*10^(delta-1):=by grind
 omega):p:=h
theorem qqW {p:Prop} (h:p:=by
 rcases Nat.eq_zero_or_pos g with h | h
 · exact h
 · have:=hM2 zxo;omega):p:=h
theorem qnj {p:Prop} (h:p:=by
 rw[qT,qF,qT,qF]
 exact qo4):p:=h
theorem qrG {p:Prop} (h:p:=by
 cases s<;>cases t<;>simp only[sgn,if_true,if_false,Bool.false_eq_true]<;>omega):p:=h
theorem qxq {p:Prop} (h:p:=by
 subst h9;simp[QP,qJ,qL,qK,jh,Tree.kind,Tree.name,QX,qbJ,eC]):p:=h
theorem qxp {p:Prop} (h:p:=by
 subst h;simp[QP,qJ,qL,qK,jh,Tree.kind,Tree.name,QX,qN]):p:=h
theorem qum {p:Prop} (h:p:=by
 rw[isE qc qw _ _ _ _ _ _ c head h1c h7c]
 cases head<;>simp[QX,qhe,RR]):p:=h
theorem qpO {p:Prop} (h:p:=by
 rw[Nat.mul_add,Nat.mul_add,Nat.mul_add] at c2
 rw[Nat.mul_assoc P 65536]
 omega):p:=h
theorem qsw {p:Prop} (h:p:=by
 simp only[compare,compareOfLessAndEq]
 rw[if_neg zxo,if_neg zxo]):p:=h
theorem quk {p:Prop} (h:p:=by
 refine zTk 11 (h:=?_)
 refine zTk 12 (h:=?_)
 refine zTk 13 (h:=?_)
 exact qr0):p:=h
theorem qoW {p:Prop} (h:p:=by
 rw[qju,qjq,qT,qF]
 exact qo4):p:=h
theorem qs3 {p:Prop} (h:p:=by
 exact⟨h1,h2,h3,by simp only;omega,by simp only;omega,by simp only;omega⟩):p:=h
theorem quf {p:Prop} (h:p:=by
 rename_i hc
 rw[List.drop_of_length_le (List.getElem?_eq_none_iff.1 hc)];rfl):p:=h
theorem qxb {p:Prop} (h:p:=by
 by_cases h2:(1:Int)<(a:Int)
 · exact .inr ⟨h2,QW h⟩
 · exact .inl h2):p:=h
theorem qsh {p:Prop} (h:p:=by
 exact Nat.mul_le_mul_right _ (Nat.pow_le_pow_right zxd zxo)):p:=h
theorem qtr {p:Prop} (h:p:=by
 rw[Qw (by rw[List.length_drop];omega),Qw zxo];rfl):p:=h
theorem qs7 {p:Prop} (h:p:=by
 have t1:¬ (G:Int)=9218868437227405312:=by omega
 have t2:((G:Int) == 9218868437227405312)=false:=by simpa using t1
 clear ht
 exact qnA):p:=h
theorem qtm {p:Prop} (h:p:=by
 have t1:(G:Int)=9218868437227405312:=by omega
 have t2:((G:Int) == 9218868437227405312)=true:=by simpa using t1
 clear ht
 exact qnA):p:=h
theorem qpw {p:Prop} (h:p:=by
 go_wp2_with fail
 go_ret
 exact⟨rfl,Below.refl _ _⟩):p:=h
theorem qpC {p:Prop} (h:p:=by
 go_wp2_with fail
 go_ret2
 exact⟨rfl,rfl⟩):p:=h
end Go.Proofs.YtacdfjlncfidgaaGreatDoor
