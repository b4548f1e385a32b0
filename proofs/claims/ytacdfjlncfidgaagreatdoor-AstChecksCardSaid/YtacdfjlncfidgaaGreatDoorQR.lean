/- A part of what the claim leans on. -/
import Derived.Test.YtacdfjlncfidgaaGreatDoorQS
import Derived.Test.YtacdfjlncfidgaaGreatDoorQC
import Derived.Test.YtacdfjlncfidgaaGreatDoorQShelf
import Derived.Test.YtacdfjlncfidgaaGreatDoorQB
import Derived.Test.YtacdfjlncfidgaaGreatDoorQM
namespace Go.Proofs.YtacdfjlncfidgaaGreatDoor
open Go.RowKit
set_option linter.unusedVariables false
set_option linter.unusedSimpArgs false
set_option maxRecDepth 1000000
set_option maxHeartbeats 6400000
structure RS where
 mant:Nat
 nd:Nat
 ndm:Nat
 dp:Int
 dot:Bool
 dig:Bool
 trunc:Bool
def RS.zero:RS:=⟨0,0,0,0,false,false,false⟩
def RS.step (σ:RS) (c:UInt8):RS :=
 if c=46 then { σ with dot:=true,dp:=σ.nd }
 else if c=48∧σ.nd=0 then { σ with dig:=true,dp:=σ.dp-1 }
 else if σ.ndm<19 then { σ with dig:=true,nd:=σ.nd+1,ndm:=σ.ndm+1,mant:=σ.mant*10+(c.toNat-48) }
 else { σ with dig:=true,nd:=σ.nd+1,trunc:=σ.trunc||decide (c≠48) }
structure RS.Ok (σ:RS) (i:Nat):Prop where
 ndm:σ.ndm≤19
 mant:σ.mant<10^σ.ndm
 le:σ.ndm≤σ.nd
 nd:σ.nd≤i
 dp0 : -(i:Int)≤σ.dp
 dp1:σ.dp≤i
theorem RS.zero_ok:RS.Ok .zero 0:=⟨by decide,by decide,by decide,by decide,by decide,by decide⟩
theorem RS.Ok.step {σ:RS} {i:Nat} {c:UInt8} (h:σ.Ok i) (hc:qf c=true∨c=46):(σ.step c).Ok (i+1):=by
 obtain⟨h1,h2,h3,h4,h5,h6⟩:=h
 unfold RS.step
 split
 · exact qs3
 · split
   · exact qs3
   · split
     · have hd:c.toNat-48<10:=by
        rcases hc with hc | hc
        · simp[qf] at hc;omega
        · subst hc;decide
       exact⟨by simp only;omega,by simp only;rw[Nat.pow_succ];omega,by simp only;omega,by simp only;omega,by simp only;omega,by simp only;omega⟩
     · exact⟨h1,h2,by simp only;omega,by simp only;omega,by simp only;omega,by simp only;omega⟩
theorem RS.Ok.lt {σ:RS} {i:Nat} (h:σ.Ok i):σ.mant<10000000000000000000:=by
 have h1:10^σ.ndm≤10^19:=Nat.pow_le_pow_right zxd h.ndm
 have h2:=h.mant
 have e:(10:Nat)^19=10000000000000000000:=by decide
 omega
theorem RS.Ok.lt18 {σ:RS} {i:Nat} (h:σ.Ok i) (h19:σ.ndm<19):σ.mant<1000000000000000000:=by
 have h1:10^σ.ndm≤10^18:=Nat.pow_le_pow_right zxd zxo
 have h2:=h.mant
 have e:(10:Nat)^18=1000000000000000000:=by decide
 omega
def je (L:List UInt8) (k:Nat):RS:=(L.take k).foldl RS.step .zero
theorem qhr (L:List UInt8):je L 0 = .zero:=rfl
theorem qbg {L:List UInt8} {k:Nat} {c:UInt8} (h:L[k]?=some c):je L (k+1)=(je L k).step c:=by
 unfold je
 rw[List.take_add_one,h,List.foldl_append];rfl
theorem qcC {σ:RS}:σ.step 46={ σ with dot:=true,dp:=σ.nd }:=by unfold RS.step;rw[if_pos rfl]
theorem qdp {σ:RS} {c:UInt8} (h1:c=48) (h2:σ.nd=0):σ.step c={ σ with dig:=true,dp:=σ.dp-1 }:=by
 unfold RS.step;rw[if_neg (by rw[h1];decide),if_pos ⟨h1,h2⟩]
theorem qa2 {σ:RS} {c:UInt8} (h0:c≠46) (h1:¬ (c=48∧σ.nd=0)) (h2:σ.ndm<19):σ.step c={ σ with dig:=true,nd:=σ.nd+1,ndm:=σ.ndm+1,mant:=σ.mant*10+(c.toNat-48) }:=by
 unfold RS.step;rw[if_neg h0,if_neg h1,if_pos h2]
theorem Jc {σ:RS} {c:UInt8} (h0:c≠46) (h1:¬ (c=48∧σ.nd=0)) (h2:¬ σ.ndm<19):σ.step c={ σ with dig:=true,nd:=σ.nd+1,trunc:=σ.trunc||decide (c≠48) }:=by
 unfold RS.step;rw[if_neg h0,if_neg h1,if_neg h2]
structure Scan (L:List UInt8) (P:Nat):Prop where
 size:3≤L.length
 most:L.length≤60
 le:P≤L.length
 pos:2≤P
 bytes:∀ k c,k<P→L[k]?=some c→qf c=true∨(c=46∧(je L k).dot=false)
 first:∃ c,L[0]?=some c∧qf c=true
 hex:L[0]?=some 48→L[1]?=some 46
 dot:(je L P).dot=true
 dig:(je L P).dig=true
theorem Scan.ok {L:List UInt8} {P:Nat} (h:Scan L P):∀ k,k≤P→(je L k).Ok k:=by
 intro k
 induction k with
 | zero=>intro _;rw[qhr];exact RS.zero_ok
 | succ k ih =>
  intro hk
  have hl:=h.le
  have hg:L[k]?=some (L[k]'zxo):=List.getElem?_eq_getElem _
  rw[qbg hg]
  refine(ih zxo).step ?_
  rcases h.bytes k _ zxo hg with h1 | ⟨h1,_⟩
  · exact .inl h1
  · exact .inr h1
def JE (σ:RS) (x:Int):Int:=if σ.mant=0 then 0 else σ.dp+x-σ.ndm
theorem qdy (l:List UInt8) (c:UInt8):qM 0 (l++[c])=qM 0 l*10+(c.toNat-48):=by unfold qM;rw[List.foldl_append];rfl
theorem qac {L:List UInt8} {Q j:Nat} {c:UInt8} (h:Q≤j) (hc:L[j]?=some c):qM 0 ((L.drop Q).take (j+1-Q))=qM 0 ((L.drop Q).take (j-Q))*10+(c.toNat-48):=by
 rw[show j+1-Q=(j-Q)+1 by omega,List.take_add_one,List.getElem?_drop,show Q+(j-Q)=j by omega,hc]
 exact qdy _ _
theorem qjk:∀ n:Fin 256,(48≤n.val∧n.val≤57∨n.val=46∨n.val=101)→bits BinOp.or IntKind.u8 ((n.val:Nat):Int) 32=((n.val:Nat):Int):=by decide +kernel
theorem qdA (c:UInt8) (h:qf c=true∨c=46∨c=101) (w:World):Calls Tryz.prog 204 #[.int .u8 c.toNat] w fun e w'=>e = .returned (.int .u8 c.toNat)∧w=w':=by
 have hb:bits BinOp.or IntKind.u8 ((c.toNat:Nat):Int) 32=((c.toNat:Nat):Int):=qjk ⟨c.toNat,c.toNat_lt⟩ (by
  rcases h with h | h | h
  · simp[qf] at h;exact .inl h
  · subst h;decide
  · subst h;decide)
 have HB:=zxi hb
 clear hb
 go_enter Tryz.func204,Tryz.ntmps204
 go_wp2_with fail
 go_ret
 exact⟨jB HB.out,rfl⟩
theorem ji (w:World):Calls Tryz.prog 204 #[.int .u8 101] w fun e w'=>e = .returned (.int .u8 101)∧w=w':=qdA 101 zxd w
theorem QM (w:World):Calls Tryz.prog 204 #[.int .u8 46] w fun e w'=>e = .returned (.int .u8 46)∧w=w':=qdA 46 zxd w
structure SS where
 D:List Nat
 dp:Int
 dot:Bool
 dig:Bool
def SS.zero:SS:=⟨[],0,false,false⟩
def SS.step (σ:SS) (c:UInt8):SS :=
 if c=46 then { σ with dot:=true,dp:=σ.D.length }
 else if c=48∧σ.D=[] then { σ with dig:=true,dp:=σ.dp-1 }
 else { σ with dig:=true,D:=σ.D++[c.toNat-48] }
def jZ (L:List UInt8) (k:Nat):SS:=(L.take k).foldl SS.step .zero
theorem qaa {L:List UInt8} {k:Nat} {c:UInt8} (h:L[k]?=some c):jZ L (k+1)=(jZ L k).step c:=by
 unfold jZ
 rw[List.take_add_one,h,Option.toList_some,List.foldl_append]
 rfl
theorem qdU {L:List UInt8} {k:Nat} (h:L[k]?=none):jZ L (k+1)=jZ L k:=by
 unfold jZ
 rw[List.take_add_one,h,Option.toList_none,List.append_nil]
theorem qfV {σ:SS}:σ.step 46={ σ with dot:=true,dp:=σ.D.length }:=by unfold SS.step;rw[if_pos rfl]
theorem qcS {σ:SS} {c:UInt8} (h1:c=48) (h2:σ.D=[]):σ.step c={ σ with dig:=true,dp:=σ.dp-1 }:=by
 unfold SS.step;rw[if_neg (by rw[h1];decide),if_pos ⟨h1,h2⟩]
theorem qe9 {σ:SS} {c:UInt8} (h0:c≠46) (h1:¬ (c=48∧σ.D=[])):σ.step c={ σ with dig:=true,D:=σ.D++[c.toNat-48] }:=by
 unfold SS.step;rw[if_neg h0,if_neg h1]
structure SSOk (σ:SS) (k:Nat):Prop where
 len:σ.D.length≤k
 dp0 : -(k:Int)≤σ.dp
 dp1:σ.dp≤(k:Int)
theorem SSOk.step {σ:SS} {k:Nat} {c:UInt8} (h:SSOk σ k):SSOk (σ.step c) (k+1):=by
 obtain⟨h1,h2,h3⟩:=h
 unfold SS.step
 by_cases a:c=46
 · rw[if_pos a];exact⟨by simp only;omega,by simp only;omega,by simp only;omega⟩
 · rw[if_neg a]
   by_cases b:c=48∧σ.D=[]
   · rw[if_pos b];exact⟨by simp only;omega,by simp only;omega,by simp only;omega⟩
   · rw[if_neg b];exact⟨by simp only[List.length_append,List.length_singleton];omega,by simp only;omega,by simp only;omega⟩
theorem SS.ok (L:List UInt8):∀ k,SSOk (jZ L k) k
 | 0=>⟨Nat.le_refl _,Int.le_refl _,Int.le_refl _⟩
 | k+1=>by
  have h:=SS.ok L k
  rcases hc:L[k]? with _ | c
  · rw[qdU hc];exact⟨by have:=h.len;omega,by have:=h.dp0;omega,by have:=h.dp1;omega⟩
  · rw[qaa hc];exact h.step
structure RSS (σ:RS) (τ:SS):Prop where
 nd:σ.nd=τ.D.length
 dp:σ.dp=τ.dp
 dot:σ.dot=τ.dot
 dig:σ.dig=τ.dig
 ndm:σ.ndm=min τ.D.length 19
 mant:σ.mant=dv (τ.D.take 19)
 trunc:σ.trunc=(τ.D.drop 19).any (fun d=>d != 0)
theorem RSS.step {σ:RS} {τ:SS} {c:UInt8} (h:RSS σ τ) (hc:qf c=true∨c=46):RSS (σ.step c) (τ.step c):=by
 obtain⟨h1,h2,h3,h4,h5,h6,h7⟩:=h
 by_cases a:c=46
 · subst a
   rw[qcC,qfV]
   exact⟨h1,by simp only;omega,rfl,h4,h5,h6,h7⟩
 · have e0:τ.D=[]↔σ.nd=0:=by rw[h1];exact List.length_eq_zero_iff.symm
   by_cases b:c=48∧σ.nd=0
   · rw[qdp b.1 b.2,qcS b.1 (e0.2 b.2)]
     exact⟨h1,by simp only;omega,h3,rfl,h5,h6,h7⟩
   · have b':¬ (c=48∧τ.D=[]):=fun e=>b ⟨e.1,e0.1 e.2⟩
     rw[qe9 a b']
     by_cases m:σ.ndm<19
     · rw[qa2 a b m]
       have hl:τ.D.length<19:=by omega
       refine⟨by simp only[List.length_append,List.length_singleton];omega,h2,h3,rfl,by simp only[List.length_append,List.length_singleton];omega,?_,?_⟩
       · simp only
         rw[List.take_of_length_le (by simp;omega),qav,h6,List.take_of_length_le zxo]
       · simp only
         rw[h7,List.drop_eq_nil_of_le zxo,List.drop_eq_nil_of_le (by simp;omega)]
     · rw[Jc a b m]
       have hl:19≤τ.D.length:=by omega
       refine⟨by simp only[List.length_append,List.length_singleton];omega,h2,h3,rfl,by simp only[List.length_append,List.length_singleton];omega,?_,?_⟩
       · simp only
         rw[h6,List.take_append_of_le_length hl]
       · simp only
         rw[h7,List.drop_append_of_le_length hl,List.any_append]
         congr 1
         have hd:qf c=true:=by rcases hc with hc | hc;exact hc;exact absurd hc a
         simp only[qf,Bool.and_eq_true,decide_eq_true_eq] at hd
         simp only[List.any_cons,List.any_nil,Bool.or_false]
         by_cases e:c=48
         · subst e;rfl
         · have:c.toNat≠48:=fun h=>e (UInt8.toNat_inj.1 h)
           rw[decide_eq_true e]
           symm
           rw[bne_iff_ne]
           omega
theorem qdI (L:List UInt8) (P:Nat) (hb:∀ k c,k<P→L[k]?=some c→qf c=true∨c=46):∀ k,k≤P→RSS (je L k) (jZ L k)
 | 0,_=>⟨rfl,rfl,rfl,rfl,rfl,rfl,rfl⟩
 | k+1,h=>by
  have ih:=qdI L P hb k zxo
  rcases hc:L[k]? with _ | c
  · have e:je L (k+1)=je L k:=by unfold je;rw[List.take_add_one,hc,Option.toList_none,List.append_nil]
    rw[qdU hc,e]
    exact ih
  · rw[qaa hc,qbg hc]
    exact ih.step (hb k c zxo hc)
theorem Scan.rs_ss {L:List UInt8} {P:Nat} (h:Scan L P) {k:Nat} (hk:k≤P):RSS (je L k) (jZ L k) :=
 qdI L P (fun k c hk hc=>by
  rcases h.bytes k c hk hc with h1 | ⟨h1,_⟩
  · exact .inl h1
  · exact .inr h1) k hk
def JM (w:World) (b:Nat) (σ:SS) (x:Int) (w':World):Prop:=∃ c',Dcm w' b c' (σ.D.length:Int) (σ.dp+x) false false∧Has c' 0 σ.D∧Below b w w'
theorem quU (s:ByteArray) (P b:Nat) (c:List Nat) (ng tr:Bool) (w:World) (h:Scan s.data.toList P) (hP:P=s.size) (hm:Dcm w b c 0 0 ng tr) :
  Calls Tryz.prog 219 #[.pointer (some ⟨b,0,none⟩),.string s] w fun e w'=>e = .returned (.bool true)∧JM w b (jZ s.data.toList P) 0 w':=by
 have hsz:s.data.toList.length=s.size:=rfl
 have hs3:3≤s.size:=h.size
 have hs60:s.size≤60:=h.most
 have hPle:P≤s.size:=h.le
 have hP2:=h.pos
 have H:=zxi h
 have HL101:=zxi ji
 obtain⟨c0,hc0,hd0⟩:=h.first
 have hget:∀ k (hk:k<s.size),s.data.toList[k]?=some s[k]:=fun k hk=>by rw[List.getElem?_eq_getElem (by rw[hsz];exact hk)];rfl
 have HGET:=zxi hget
 have hp0:0<s.size:=by omega
 have hne:¬ s=ByteArray.empty:=by rintro rfl;simp at hs3
 have e0:(s[0]'hp0)=c0:=Option.some.inj ((hget 0 zxo).symm.trans hc0)
 have f43:((c0.toNat:Int) == 43)=false:=by simp[qf] at hd0;rw[beq_eq_false_iff_ne];omega
 have f45:((c0.toNat:Int) == 45)=false:=by simp[qf] at hd0;rw[beq_eq_false_iff_ne];omega
 have HDC:=zxi ((hm.setNg false).setTr false)
 have m0:=hm.ng_
 have m1:=hm.tr_
 have q0:=hm.thaw 802
 have q1:=hm.thaw 803
 clear h hget hc0 hd0 hm
 go_enter Tryz.func219,Tryz.ntmps219
 go_wp2_with fail
 go_outline
 first | go_step3 | skip
 go_wp2_with fail
 first | go_step3 | skip
 go_wp2_with fail
 go_outline
 have HB0:=zxi (((Below.refl b w).setCell (p:=⟨b,802,none⟩) zxn (Value.bool false)).setCell (p:=⟨b,803,none⟩) zxn (Value.bool false))
 clear m0 m1 q0 q1
 go_loopw [5,6,7] (fun iv dotv digv wr=>∃ (k:Nat) (cc:List Nat),k≤P∧iv = .int .i64 k∧dotv = .bool (jZ s.data.toList k).dot∧digv = .bool (jZ s.data.toList k).dig∧Dcm wr b cc ((jZ s.data.toList k).D.length:Int) (jZ s.data.toList k).dp false false∧Has cc 0 (jZ s.data.toList k).D∧Below b w wr) (fun iv _ _ _=>P-(intOf iv).toNat)
 case atStart=>exact⟨0,c,Nat.zero_le _,rfl,rfl,rfl,HDC.out,Has.nil,HB0.out⟩
 case round =>
  obtain⟨k,cc,hk,rfl,rfl,rfl,hM,hH,hB⟩:=hrel
  have HM:=zxi hM
  have HH:=zxi hH
  have HB:=zxi hB
  have HOK:=zxi (SS.ok s.data.toList k)
  have hok1:=(SS.ok s.data.toList k).len
  have hok2:=(SS.ok s.data.toList k).dp0
  have hok3:=(SS.ok s.data.toList k).dp1
  have m0:=hM.nd_
  have m1:=hM.dp_
  have q0:=hM.thaw 800
  have q1:=hM.thaw 801
  have hcl:=hM.len
  clear hM hH hB
  by_cases hlt:k<P
  · exact zz2
  · obtain rfl:k=P:=by omega
    have t1:=(H.out.rs_ss zxn).dot.symm.trans H.out.dot
    have t2:=(H.out.rs_ss zxn).dig.symm.trans H.out.dig
    clear hk hlt
    obtain⟨σ,hσ⟩:∃ σ,jZ s.data.toList k=σ:=⟨_,rfl⟩
    rw[hσ] at t1 t2 HM HH hok1 hok2 hok3 m0 m1 ⊢
    obtain⟨D,dp,dot,dig⟩:=σ
    dsimp only at t1 t2 HM HH hok1 hok2 hok3 m0 m1
    subst t1 t2
    have HSG:=zxi hσ
    clear hσ hcl
    subst hP
    go_wp2_with fail
    first | rw[Exit.noGoto_ret] | skip
    go_ret
    refine⟨rfl,cc,?_,?_,HB.out⟩
    · rw[HSG.out]
      simpa using HM.out
    · rw[HSG.out]
      exact HH.out
end Go.Proofs.YtacdfjlncfidgaaGreatDoor
