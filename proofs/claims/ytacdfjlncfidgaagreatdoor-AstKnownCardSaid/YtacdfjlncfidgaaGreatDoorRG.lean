/- A part of what the claim leans on. -/
import Derived.Test.YtacdfjlncfidgaaGreatDoorQS
import Derived.Test.YtacdfjlncfidgaaGreatDoorRC
namespace Go.Proofs.YtacdfjlncfidgaaGreatDoor
open Go.RowKit
set_option linter.unusedVariables false
set_option linter.unusedSimpArgs false
set_option maxRecDepth 100000
set_option maxHeartbeats 1600000
theorem qbt {n:Nat}:∀ {lo hi:Nat} {r:BL},r.length<n→okC lo hi n r=false:=by
 induction n with
 | zero=>intro lo hi r h;omega
 | succ n ih =>
  intro lo hi r h
  cases r with
  | nil=>rfl
  | cons x r=>simp only[okC,ih (lo:=128) (hi:=191) (r:=r) (by simp at h;omega)];simp
theorem Qb {s:ByteArray} {k:Nat} {c:UInt8} (h:k<s.size) (hc:s[k]=c):qW (s.data.toList.drop k)=if c.toNat<128 then 1 else if (hdC c.toNat).1≠0∧okC (hdC c.toNat).2.1 (hdC c.toNat).2.2 (hdC c.toNat).1 (s.data.toList.drop (k+1))=true then (hdC c.toNat).1+1 else 0:=by
 have:=QB (Ql h)
 rw[hc] at this
 rw[this];rfl
theorem qps (s:ByteArray) (k:Nat) (c:UInt8) (w:World) (hs:s.size≤1000000) (h:k<s.size) (hc:s[k]=c) (c1:128≤c.toNat) (c2:c.toNat≤193) :
  Calls Tryz.prog 126 #[.string s,.int .i64 (k:Int)] w fun e w'=>e = .returned (.int .i64 (qW (s.data.toList.drop k)))∧w'=w:=by
 have hlt:(k:Int)<(s.size:Int):=by omega
 have hv:=Qb h hc
 rw[if_neg zxo,show hdC c.toNat=(0,128,191) by unfold hdC;repeat' (first | rfl | omega | split)] at hv
 have f0:¬ (c.toNat:Int)<128:=by omega
 have f1:(c.toNat:Int)≤255:=by omega
 have g0:¬ (194:Int)≤(c.toNat:Int):=by omega
 have g1:¬ (224:Int)≤(c.toNat:Int):=by omega
 have g2:¬ (240:Int)≤(c.toNat:Int):=by omega
 have e0:(c.toNat:Int)≤223:=by omega
 have e1:(c.toNat:Int)≤239:=by omega
 have e2:(c.toNat:Int)≤244:=by omega
 exact qqv
theorem qoU (s:ByteArray) (k:Nat) (c:UInt8) (w:World) (hs:s.size≤1000000) (h:k<s.size) (hc:s[k]=c) (c1:194≤c.toNat) (c2:c.toNat≤223) :
  Calls Tryz.prog 126 #[.string s,.int .i64 (k:Int)] w fun e w'=>e = .returned (.int .i64 (qW (s.data.toList.drop k)))∧w'=w:=by
 have hlt:(k:Int)<(s.size:Int):=by omega
 have hv:=Qb h hc
 rw[if_neg zxo,show hdC c.toNat=(1,128,191) by unfold hdC;repeat' (first | rfl | omega | split)] at hv
 have f0:¬ (c.toNat:Int)<128:=by omega
 have f1:(c.toNat:Int)≤255:=by omega
 have g0:(194:Int)≤(c.toNat:Int):=by omega
 have g1:¬ (224:Int)≤(c.toNat:Int):=by omega
 have g2:¬ (240:Int)≤(c.toNat:Int):=by omega
 have e0:(c.toNat:Int)≤223:=by omega
 have e1:(c.toNat:Int)≤239:=by omega
 have e2:(c.toNat:Int)≤244:=by omega
 have q0:((c.toNat:Int) == 224)=false:=beq_eq_false_iff_ne.2 zxo
 have q1:((c.toNat:Int) == 237)=false:=beq_eq_false_iff_ne.2 zxo
 have q2:((c.toNat:Int) == 240)=false:=beq_eq_false_iff_ne.2 zxo
 have q3:((c.toNat:Int) == 244)=false:=beq_eq_false_iff_ne.2 zxo
 obtain⟨R,hR⟩:∃ R,s.data.toList.drop (k+1)=R:=⟨_,rfl⟩
 have hRl:R.length+(k+1)=s.size:=by rw[← hR,List.length_drop];show s.size-(k+1)+(k+1)=s.size;omega
 have hget:∀ j,(hj:k+1+j<s.size)→R[j]?=some (s[k+1+j]'hj):=fun j hj=>by rw[← hR,List.getElem?_drop];exact Ql hj
 rw[hR] at hv
 by_cases hsh:s.size≤k+1
 · have hsh2:(s.size:Int)≤(k:Int)+1:=by omega
   have HV:=zxi (show qW (s.data.toList.drop k)=0 by rw[hv,qbt (by show R.length<1;omega)];rfl)
   clear hv c1 c2 hR hget
   exact qhu
 · have hsh2:¬ (s.size:Int)≤(k:Int)+1:=by omega
   have HV:=zxi (show qW (s.data.toList.drop k)=if okC 128 191 1 R=true then 2 else 0 by rw[hv];simp)
   have HG:=zxi hget
   clear hv c1 c2 hR hget
   go_enter Tryz.func126,Tryz.ntmps126
   go_wp2_with fail
   go_loopw [5,6,9] (fun a b iv wr=>∃ j lo hi:Nat,a = .int .i64 lo∧b = .int .i64 hi∧iv = .int .i64 j∧1≤j∧j≤2∧okC 128 191 1 R=okC lo hi (2-j) (R.drop (j-1))∧wr=w) (fun _ _ iv _=>3-(intOf iv).toNat)
   case atStart=>exact⟨1,128,191,rfl,rfl,rfl,Nat.le_refl _,by omega,rfl,rfl⟩
   case round =>
    obtain⟨j,lo,hi,rfl,rfl,rfl,hj1,hj2,hok,rfl⟩:=hrel
    by_cases hjn:j≤1
    · have hjn2:(j:Int)≤1:=by omega
      obtain⟨p,hp⟩:∃ p,k+j=p:=⟨_,rfl⟩
      have hjp:k+1+(j-1)=p:=by omega
      have hps:p<s.size:=by omega
      obtain⟨x,hx⟩:∃ x,s[p]'hps=x:=⟨_,rfl⟩
      have bx0:(0:Int)≤(x.toNat:Int):=by omega
      have bx1:(x.toNat:Int)≤255:=by have:=Jl x;omega
      have hg:=HG.out (j-1) zxo
      have hg2:R[j-1]?=some x:=by rw[hg];simp only[hjp];rw[hx]
      have hd:=QB hg2
      have hkj:(k:Int)+(j:Int)=(p:Int):=by omega
      have hps2:(p:Int)<(s.size:Int):=by omega
      rw[show 2-j=(1-j)+1 by omega,hd,show j-1+1=j by omega] at hok
      simp only[okC] at hok
      by_cases x1:x.toNat<lo
      · exact qn3
      · have y1:¬ (x.toNat:Int)<(lo:Int):=by omega
        by_cases x2:hi<x.toNat
        · exact qmH
        · have y2:¬ (hi:Int)<(x.toNat:Int):=by omega
          rw[decide_eq_true (p:=lo≤x.toNat) zxo,decide_eq_true (p:=x.toNat≤hi) zxo,Bool.true_and,Bool.true_and] at hok
          have HOK:=zxi hok
          clear hok hg hg2 hd hjp hp x1 x2
          go_wp2_with fail
          go_roundw
          case rel=>exact⟨j+1,128,191,rfl,rfl,by go_num,by omega,by omega,by rw[HOK.out,show 2-(j+1)=1-j by omega,Nat.add_sub_cancel],trivial⟩
          case measure=>simp only[intOf];omega
    · have hj4:j=2:=by omega
      subst hj4
      have HW:=zxi (show qW (s.data.toList.drop k)=2 by rw[HV.out,hok];rfl)
      clear hok
      exact qio
theorem qoh (s:ByteArray) (k:Nat) (c:UInt8) (w:World) (hs:s.size≤1000000) (h:k<s.size) (hc:s[k]=c) (c1:224≤c.toNat) (c2:c.toNat≤224) :
  Calls Tryz.prog 126 #[.string s,.int .i64 (k:Int)] w fun e w'=>e = .returned (.int .i64 (qW (s.data.toList.drop k)))∧w'=w:=by
 have hlt:(k:Int)<(s.size:Int):=by omega
 have hv:=Qb h hc
 rw[if_neg zxo,show hdC c.toNat=(2,160,191) by unfold hdC;repeat' (first | rfl | omega | split)] at hv
 have f0:¬ (c.toNat:Int)<128:=by omega
 have f1:(c.toNat:Int)≤255:=by omega
 have g0:(194:Int)≤(c.toNat:Int):=by omega
 have g1:(224:Int)≤(c.toNat:Int):=by omega
 have g2:¬ (240:Int)≤(c.toNat:Int):=by omega
 have e0:¬ (c.toNat:Int)≤223:=by omega
 have e1:(c.toNat:Int)≤239:=by omega
 have e2:(c.toNat:Int)≤244:=by omega
 have q0:((c.toNat:Int) == 224)=true:=beq_iff_eq.2 zxo
 have q1:((c.toNat:Int) == 237)=false:=beq_eq_false_iff_ne.2 zxo
 have q2:((c.toNat:Int) == 240)=false:=beq_eq_false_iff_ne.2 zxo
 have q3:((c.toNat:Int) == 244)=false:=beq_eq_false_iff_ne.2 zxo
 obtain⟨R,hR⟩:∃ R,s.data.toList.drop (k+1)=R:=⟨_,rfl⟩
 have hRl:R.length+(k+1)=s.size:=by rw[← hR,List.length_drop];show s.size-(k+1)+(k+1)=s.size;omega
 have hget:∀ j,(hj:k+1+j<s.size)→R[j]?=some (s[k+1+j]'hj):=fun j hj=>by rw[← hR,List.getElem?_drop];exact Ql hj
 rw[hR] at hv
 by_cases hsh:s.size≤k+2
 · exact qoE
 · have hsh2:¬ (s.size:Int)≤(k:Int)+2:=by omega
   have HV:=zxi (show qW (s.data.toList.drop k)=if okC 160 191 2 R=true then 3 else 0 by rw[hv];simp)
   have HG:=zxi hget
   clear hv c1 c2 hR hget
   go_enter Tryz.func126,Tryz.ntmps126
   go_wp2_with fail
   go_loopw [5,6,9] (fun a b iv wr=>∃ j lo hi:Nat,a = .int .i64 lo∧b = .int .i64 hi∧iv = .int .i64 j∧1≤j∧j≤3∧okC 160 191 2 R=okC lo hi (3-j) (R.drop (j-1))∧wr=w) (fun _ _ iv _=>4-(intOf iv).toNat)
   case atStart=>exact⟨1,160,191,rfl,rfl,rfl,Nat.le_refl _,by omega,rfl,rfl⟩
   case round =>exact qv5
theorem qk1 (s:ByteArray) (k:Nat) (c:UInt8) (w:World) (hs:s.size≤1000000) (h:k<s.size) (hc:s[k]=c) (c1:225≤c.toNat) (c2:c.toNat≤236) :
  Calls Tryz.prog 126 #[.string s,.int .i64 (k:Int)] w fun e w'=>e = .returned (.int .i64 (qW (s.data.toList.drop k)))∧w'=w:=by
 exact qwv
theorem qou (s:ByteArray) (k:Nat) (c:UInt8) (w:World) (hs:s.size≤1000000) (h:k<s.size) (hc:s[k]=c) (c1:237≤c.toNat) (c2:c.toNat≤237) :
  Calls Tryz.prog 126 #[.string s,.int .i64 (k:Int)] w fun e w'=>e = .returned (.int .i64 (qW (s.data.toList.drop k)))∧w'=w:=by
 have hlt:(k:Int)<(s.size:Int):=by omega
 have hv:=Qb h hc
 rw[if_neg zxo,show hdC c.toNat=(2,128,159) by unfold hdC;repeat' (first | rfl | omega | split)] at hv
 have f0:¬ (c.toNat:Int)<128:=by omega
 have f1:(c.toNat:Int)≤255:=by omega
 have g0:(194:Int)≤(c.toNat:Int):=by omega
 have g1:(224:Int)≤(c.toNat:Int):=by omega
 have g2:¬ (240:Int)≤(c.toNat:Int):=by omega
 have e0:¬ (c.toNat:Int)≤223:=by omega
 have e1:(c.toNat:Int)≤239:=by omega
 have e2:(c.toNat:Int)≤244:=by omega
 have q0:((c.toNat:Int) == 224)=false:=beq_eq_false_iff_ne.2 zxo
 have q1:((c.toNat:Int) == 237)=true:=beq_iff_eq.2 zxo
 have q2:((c.toNat:Int) == 240)=false:=beq_eq_false_iff_ne.2 zxo
 have q3:((c.toNat:Int) == 244)=false:=beq_eq_false_iff_ne.2 zxo
 obtain⟨R,hR⟩:∃ R,s.data.toList.drop (k+1)=R:=⟨_,rfl⟩
 have hRl:R.length+(k+1)=s.size:=by rw[← hR,List.length_drop];show s.size-(k+1)+(k+1)=s.size;omega
 have hget:∀ j,(hj:k+1+j<s.size)→R[j]?=some (s[k+1+j]'hj):=fun j hj=>by rw[← hR,List.getElem?_drop];exact Ql hj
 rw[hR] at hv
 by_cases hsh:s.size≤k+2
 · exact qoE
 · have hsh2:¬ (s.size:Int)≤(k:Int)+2:=by omega
   have HV:=zxi (show qW (s.data.toList.drop k)=if okC 128 159 2 R=true then 3 else 0 by rw[hv];simp)
   have HG:=zxi hget
   clear hv c1 c2 hR hget
   go_enter Tryz.func126,Tryz.ntmps126
   go_wp2_with fail
   go_loopw [5,6,9] (fun a b iv wr=>∃ j lo hi:Nat,a = .int .i64 lo∧b = .int .i64 hi∧iv = .int .i64 j∧1≤j∧j≤3∧okC 128 159 2 R=okC lo hi (3-j) (R.drop (j-1))∧wr=w) (fun _ _ iv _=>4-(intOf iv).toNat)
   case atStart=>exact⟨1,128,159,rfl,rfl,rfl,Nat.le_refl _,by omega,rfl,rfl⟩
   case round =>exact qv5
theorem qk8 (s:ByteArray) (k:Nat) (c:UInt8) (w:World) (hs:s.size≤1000000) (h:k<s.size) (hc:s[k]=c) (c1:238≤c.toNat) (c2:c.toNat≤239) :
  Calls Tryz.prog 126 #[.string s,.int .i64 (k:Int)] w fun e w'=>e = .returned (.int .i64 (qW (s.data.toList.drop k)))∧w'=w:=by
 exact qwv
theorem qog (s:ByteArray) (k:Nat) (c:UInt8) (w:World) (hs:s.size≤1000000) (h:k<s.size) (hc:s[k]=c) (c1:240≤c.toNat) (c2:c.toNat≤240) :
  Calls Tryz.prog 126 #[.string s,.int .i64 (k:Int)] w fun e w'=>e = .returned (.int .i64 (qW (s.data.toList.drop k)))∧w'=w:=by
 have hlt:(k:Int)<(s.size:Int):=by omega
 have hv:=Qb h hc
 rw[if_neg zxo,show hdC c.toNat=(3,144,191) by unfold hdC;repeat' (first | rfl | omega | split)] at hv
 have f0:¬ (c.toNat:Int)<128:=by omega
 have f1:(c.toNat:Int)≤255:=by omega
 have g0:(194:Int)≤(c.toNat:Int):=by omega
 have g1:(224:Int)≤(c.toNat:Int):=by omega
 have g2:(240:Int)≤(c.toNat:Int):=by omega
 have e0:¬ (c.toNat:Int)≤223:=by omega
 have e1:¬ (c.toNat:Int)≤239:=by omega
 have e2:(c.toNat:Int)≤244:=by omega
 have q0:((c.toNat:Int) == 224)=false:=beq_eq_false_iff_ne.2 zxo
 have q1:((c.toNat:Int) == 237)=false:=beq_eq_false_iff_ne.2 zxo
 have q2:((c.toNat:Int) == 240)=true:=beq_iff_eq.2 zxo
 have q3:((c.toNat:Int) == 244)=false:=beq_eq_false_iff_ne.2 zxo
 obtain⟨R,hR⟩:∃ R,s.data.toList.drop (k+1)=R:=⟨_,rfl⟩
 have hRl:R.length+(k+1)=s.size:=by rw[← hR,List.length_drop];show s.size-(k+1)+(k+1)=s.size;omega
 have hget:∀ j,(hj:k+1+j<s.size)→R[j]?=some (s[k+1+j]'hj):=fun j hj=>by rw[← hR,List.getElem?_drop];exact Ql hj
 rw[hR] at hv
 by_cases hsh:s.size≤k+3
 · exact qnz
 · have hsh2:¬ (s.size:Int)≤(k:Int)+3:=by omega
   have HV:=zxi (show qW (s.data.toList.drop k)=if okC 144 191 3 R=true then 4 else 0 by rw[hv];simp)
   have HG:=zxi hget
   clear hv c1 c2 hR hget
   go_enter Tryz.func126,Tryz.ntmps126
   go_wp2_with fail
   go_loopw [5,6,9] (fun a b iv wr=>∃ j lo hi:Nat,a = .int .i64 lo∧b = .int .i64 hi∧iv = .int .i64 j∧1≤j∧j≤4∧okC 144 191 3 R=okC lo hi (4-j) (R.drop (j-1))∧wr=w) (fun _ _ iv _=>5-(intOf iv).toNat)
   case atStart=>exact⟨1,144,191,rfl,rfl,rfl,Nat.le_refl _,by omega,rfl,rfl⟩
   case round =>exact qvF
theorem qmL (s:ByteArray) (k:Nat) (c:UInt8) (w:World) (hs:s.size≤1000000) (h:k<s.size) (hc:s[k]=c) (c1:241≤c.toNat) (c2:c.toNat≤243) :
  Calls Tryz.prog 126 #[.string s,.int .i64 (k:Int)] w fun e w'=>e = .returned (.int .i64 (qW (s.data.toList.drop k)))∧w'=w:=by
 have hlt:(k:Int)<(s.size:Int):=by omega
 have hv:=Qb h hc
 rw[if_neg zxo,show hdC c.toNat=(3,128,191) by unfold hdC;repeat' (first | rfl | omega | split)] at hv
 have f0:¬ (c.toNat:Int)<128:=by omega
 have f1:(c.toNat:Int)≤255:=by omega
 have g0:(194:Int)≤(c.toNat:Int):=by omega
 have g1:(224:Int)≤(c.toNat:Int):=by omega
 have g2:(240:Int)≤(c.toNat:Int):=by omega
 have e0:¬ (c.toNat:Int)≤223:=by omega
 have e1:¬ (c.toNat:Int)≤239:=by omega
 have e2:(c.toNat:Int)≤244:=by omega
 have q0:((c.toNat:Int) == 224)=false:=beq_eq_false_iff_ne.2 zxo
 have q1:((c.toNat:Int) == 237)=false:=beq_eq_false_iff_ne.2 zxo
 have q2:((c.toNat:Int) == 240)=false:=beq_eq_false_iff_ne.2 zxo
 have q3:((c.toNat:Int) == 244)=false:=beq_eq_false_iff_ne.2 zxo
 obtain⟨R,hR⟩:∃ R,s.data.toList.drop (k+1)=R:=⟨_,rfl⟩
 have hRl:R.length+(k+1)=s.size:=by rw[← hR,List.length_drop];show s.size-(k+1)+(k+1)=s.size;omega
 have hget:∀ j,(hj:k+1+j<s.size)→R[j]?=some (s[k+1+j]'hj):=fun j hj=>by rw[← hR,List.getElem?_drop];exact Ql hj
 rw[hR] at hv
 by_cases hsh:s.size≤k+3
 · exact qnz
 · have hsh2:¬ (s.size:Int)≤(k:Int)+3:=by omega
   have HV:=zxi (show qW (s.data.toList.drop k)=if okC 128 191 3 R=true then 4 else 0 by rw[hv];simp)
   have HG:=zxi hget
   clear hv c1 c2 hR hget
   go_enter Tryz.func126,Tryz.ntmps126
   go_wp2_with fail
   go_loopw [5,6,9] (fun a b iv wr=>∃ j lo hi:Nat,a = .int .i64 lo∧b = .int .i64 hi∧iv = .int .i64 j∧1≤j∧j≤4∧okC 128 191 3 R=okC lo hi (4-j) (R.drop (j-1))∧wr=w) (fun _ _ iv _=>5-(intOf iv).toNat)
   case atStart=>exact⟨1,128,191,rfl,rfl,rfl,Nat.le_refl _,by omega,rfl,rfl⟩
   case round =>exact qvF
theorem qom (s:ByteArray) (k:Nat) (c:UInt8) (w:World) (hs:s.size≤1000000) (h:k<s.size) (hc:s[k]=c) (c1:244≤c.toNat) (c2:c.toNat≤244) :
  Calls Tryz.prog 126 #[.string s,.int .i64 (k:Int)] w fun e w'=>e = .returned (.int .i64 (qW (s.data.toList.drop k)))∧w'=w:=by
 have hlt:(k:Int)<(s.size:Int):=by omega
 have hv:=Qb h hc
 rw[if_neg zxo,show hdC c.toNat=(3,128,143) by unfold hdC;repeat' (first | rfl | omega | split)] at hv
 have f0:¬ (c.toNat:Int)<128:=by omega
 have f1:(c.toNat:Int)≤255:=by omega
 have g0:(194:Int)≤(c.toNat:Int):=by omega
 have g1:(224:Int)≤(c.toNat:Int):=by omega
 have g2:(240:Int)≤(c.toNat:Int):=by omega
 have e0:¬ (c.toNat:Int)≤223:=by omega
 have e1:¬ (c.toNat:Int)≤239:=by omega
 have e2:(c.toNat:Int)≤244:=by omega
 have q0:((c.toNat:Int) == 224)=false:=beq_eq_false_iff_ne.2 zxo
 have q1:((c.toNat:Int) == 237)=false:=beq_eq_false_iff_ne.2 zxo
 have q2:((c.toNat:Int) == 240)=false:=beq_eq_false_iff_ne.2 zxo
 have q3:((c.toNat:Int) == 244)=true:=beq_iff_eq.2 zxo
 obtain⟨R,hR⟩:∃ R,s.data.toList.drop (k+1)=R:=⟨_,rfl⟩
 have hRl:R.length+(k+1)=s.size:=by rw[← hR,List.length_drop];show s.size-(k+1)+(k+1)=s.size;omega
 have hget:∀ j,(hj:k+1+j<s.size)→R[j]?=some (s[k+1+j]'hj):=fun j hj=>by rw[← hR,List.getElem?_drop];exact Ql hj
 rw[hR] at hv
 by_cases hsh:s.size≤k+3
 · exact qnz
 · have hsh2:¬ (s.size:Int)≤(k:Int)+3:=by omega
   have HV:=zxi (show qW (s.data.toList.drop k)=if okC 128 143 3 R=true then 4 else 0 by rw[hv];simp)
   have HG:=zxi hget
   clear hv c1 c2 hR hget
   go_enter Tryz.func126,Tryz.ntmps126
   go_wp2_with fail
   go_loopw [5,6,9] (fun a b iv wr=>∃ j lo hi:Nat,a = .int .i64 lo∧b = .int .i64 hi∧iv = .int .i64 j∧1≤j∧j≤4∧okC 128 143 3 R=okC lo hi (4-j) (R.drop (j-1))∧wr=w) (fun _ _ iv _=>5-(intOf iv).toNat)
   case atStart=>exact⟨1,128,143,rfl,rfl,rfl,Nat.le_refl _,by omega,rfl,rfl⟩
   case round =>exact qvF
theorem qob (s:ByteArray) (k:Nat) (c:UInt8) (w:World) (hs:s.size≤1000000) (h:k<s.size) (hc:s[k]=c) (c1:245≤c.toNat) (c2:c.toNat≤255) :
  Calls Tryz.prog 126 #[.string s,.int .i64 (k:Int)] w fun e w'=>e = .returned (.int .i64 (qW (s.data.toList.drop k)))∧w'=w:=by
 have hlt:(k:Int)<(s.size:Int):=by omega
 have hv:=Qb h hc
 rw[if_neg zxo,show hdC c.toNat=(0,128,191) by unfold hdC;repeat' (first | rfl | omega | split)] at hv
 have f0:¬ (c.toNat:Int)<128:=by omega
 have f1:(c.toNat:Int)≤255:=by omega
 have g0:(194:Int)≤(c.toNat:Int):=by omega
 have g1:(224:Int)≤(c.toNat:Int):=by omega
 have g2:(240:Int)≤(c.toNat:Int):=by omega
 have e0:¬ (c.toNat:Int)≤223:=by omega
 have e1:¬ (c.toNat:Int)≤239:=by omega
 have e2:¬ (c.toNat:Int)≤244:=by omega
 exact qqv
theorem qvI (s:ByteArray) (k:Nat) (w:World) (hs:s.size≤1000000) (h:k<s.size) :
  Calls Tryz.prog 126 #[.string s,.int .i64 (k:Int)] w fun e w'=>e = .returned (.int .i64 (qW (s.data.toList.drop k)))∧w'=w:=by
 obtain⟨c,hc⟩:∃ c,s[k]=c:=⟨_,rfl⟩
 have hb:=Jl c
 by_cases h1:c.toNat<128
 · have hlt:(k:Int)<(s.size:Int):=by omega
   have f0:(c.toNat:Int)<128:=by omega
   have HV:=zxi (show qW (s.data.toList.drop k)=1 by rw[Qb h hc,if_pos h1])
   have q0:True:=trivial
   clear h1
   exact qhu
 by_cases hB:c.toNat≤193
 · exact qps s k c w hs h hc zxo hB
 by_cases hC:c.toNat≤223
 · exact qoU s k c w hs h hc zxo hC
 by_cases hD:c.toNat≤224
 · exact qoh s k c w hs h hc zxo hD
 by_cases hF1:c.toNat≤236
 · exact qk1 s k c w hs h hc zxo hF1
 by_cases hE:c.toNat≤237
 · exact qou s k c w hs h hc zxo hE
 by_cases hF2:c.toNat≤239
 · exact qk8 s k c w hs h hc zxo hF2
 by_cases hG:c.toNat≤240
 · exact qog s k c w hs h hc zxo hG
 by_cases hH:c.toNat≤243
 · exact qmL s k c w hs h hc zxo hH
 by_cases hI:c.toNat≤244
 · exact qom s k c w hs h hc zxo hI
 exact qob s k c w hs h hc zxo zxo
theorem qjM (s:ByteArray) (w:World) (hs:s.size≤1000000) :
  Calls Tryz.prog 105 #[.string s] w fun e w'=>e = .returned (qmq (qcb s.data.toList 0))∧w'=w:=by
 have hsz:s.data.toList.length=s.size:=rfl
 have HSZ:=zxi hsz
 clear hsz
 go_enter Tryz.func105,Tryz.ntmps105
 go_wp2_with fail
 go_loopw [3] (fun iv wr=>∃ k:Nat,k≤s.size∧iv = .int .i64 k∧qcb s.data.toList 0=qcb s.data.toList k∧wr=w) (fun iv _=>s.size-(intOf iv).toNat)
 case atStart=>exact⟨0,Nat.zero_le _,rfl,rfl,rfl⟩
 case round =>
  obtain⟨k,hk,rfl,hv,rfl⟩:=hrel
  by_cases hlt:k<s.size
  · have hlt2:(k:Int)<(s.size:Int):=by omega
    have hS:=qvI s k wr hs hlt
    have hle:=qfG (s.data.toList.drop k)
    rw[List.length_drop,HSZ.out] at hle
    have HZ:=zxi (fun h2=>qeg (L:=s.data.toList) (k:=k) (by rw[HSZ.out];exact hlt) h2)
    have HST:=zxi (fun h2=>qd9 (L:=s.data.toList) (k:=k) (by rw[HSZ.out];exact hlt) h2)
    obtain⟨n,hn⟩:∃ n,qW (s.data.toList.drop k)=n:=⟨_,rfl⟩
    rw[hn] at hS hle
    simp only[hn] at HZ HST
    clear hn
    by_cases hn0:n=0
    · subst hn0
      have HS:=zxi (show Calls Tryz.prog 126 #[.string s,.int .i64 (k:Int)] wr fun e w'=>e = .returned (.int .i64 0)∧w'=wr from hS)
      have HV:=zxi (hv.trans (HZ.out rfl))
      clear hS hv hle
      go_wp2_with (first | (go_at_call 126;refine HS.out.mono ?_;rintro e w' ⟨rfl,rfl⟩))
      go_ret
      exact⟨by rw[HV.out];rfl,rfl⟩
    · have HS:=zxi hS
      have b1:((n:Int) == 0)=false:=beq_eq_false_iff_ne.2 zxo
      have HV:=zxi (hv.trans (HST.out hn0))
      clear hS hv
      go_wp2_with (first | (go_at_call 126;refine HS.out.mono ?_;rintro e w' ⟨rfl,rfl⟩))
      go_roundw
      case rel=>exact⟨k+n,by omega,by go_num,HV.out,trivial⟩
      case measure=>simp only[intOf];omega
  · have hlt2:¬ (k:Int)<(s.size:Int):=by omega
    have HV:=zxi (hv.trans (qfF (by rw[HSZ.out];omega)))
    clear hv
    go_wp2_with fail
    go_ret
    exact⟨by rw[HV.out];rfl,rfl⟩
def qeU (L:BL) (i:Nat):Int:=match L[i]? with
 | some c=>(match qaR c with | some v=>(v:Int) | none => -1)
 | none => -1
theorem qoC {s:ByteArray} {i:Nat} {c:UInt8} (h:i<s.size) (hc:s[i]=c):qeU s.data.toList i=(match qaR c with | some v=>(v:Int) | none => -1):=by
 unfold qeU
 have:s.data.toList[i]?=some c:=by
  rw[← hc]
  simp only[Array.getElem?_toList]
  exact Array.getElem?_eq_getElem (by simpa using h)
 rw[this]
theorem qfo {s:ByteArray} {i:Nat} (h:s.size≤i):qeU s.data.toList i = -1:=by
 unfold qeU
 rw[List.getElem?_eq_none (by show s.data.toList.length≤i;exact h)]
theorem qxn (s:ByteArray) (i:Nat) (w:World) (hs:s.size≤1000000) (hi:i≤1000000) :
  Calls Tryz.prog 150 #[.string s,.int .i64 (i:Int)] w fun e w'=>e = .returned (.int .i64 (qeU s.data.toList i))∧w'=w:=by
 have hd:=fun w=>qaN s i w zxo zxo
 by_cases hlt:i<s.size
 · obtain⟨c,hc⟩:∃ c,s[i]=c:=⟨_,rfl⟩
   have hx:=qoC hlt hc
   have ha:atB qf s.data.toList i=qf c:=by rw[qbw hlt,hc]
   rw[ha] at hd
   have hlt2:(i:Int)<(s.size:Int):=by omega
   have hcb:=c.toNat_lt
   rw[hx]
   cases hg:qf c with
   | true =>
    rw[hg] at hd
    have HD:=zxi hd
    have hr:48≤c.toNat∧c.toNat≤57:=by simpa[qf] using hg
    have hv:qaR c=some (c.toNat-48):=by unfold qaR;rw[if_pos hg]
    rw[hv]
    have e1:(48:Int)≤(c.toNat:Int):=by omega
    have e2:(c.toNat:Int)-48=((c.toNat-48:Nat):Int):=by omega
    clear hd hx ha hg
    exact qnB
   | false =>
    rw[hg] at hd
    have HD:=zxi hd
    by_cases a1:97≤c.toNat
    · have b1:(97:Int)≤(c.toNat:Int):=by omega
      by_cases a2:c.toNat≤102
      · have b2:(c.toNat:Int)≤102:=by omega
        have hv:qaR c=some (c.toNat-87):=by unfold qaR;rw[if_neg (by rw[hg];exact Bool.false_ne_true),if_pos ⟨a1,a2⟩]
        rw[hv]
        clear hd hx ha hg
        go_enter Tryz.func150,Tryz.ntmps150
        go_wp2_with (first | (go_at_call 61;refine(HD.out _).mono ?_;rintro e w2 ⟨rfl,rfl⟩))
        go_ret
        exact⟨by rw[show(c.toNat:Int)-97+10=((c.toNat-87:Nat):Int) by omega];rfl,rfl⟩
      · have b2:¬ (c.toNat:Int)≤102:=by omega
        exact qtg
    · have b1:¬ (97:Int)≤(c.toNat:Int):=by omega
      exact qtg
 · have hlt2:¬ (i:Int)<(s.size:Int):=by omega
   rw[qfo zxo]
   rw[qa6 (by show s.size≤i;omega)] at hd
   have HD:=zxi hd
   clear hd
   exact qnB
end Go.Proofs.YtacdfjlncfidgaaGreatDoor
