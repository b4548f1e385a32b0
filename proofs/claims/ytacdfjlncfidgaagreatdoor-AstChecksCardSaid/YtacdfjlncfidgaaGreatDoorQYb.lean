/- A part of what the claim leans on. -/
import Derived.Test.YtacdfjlncfidgaaGreatDoorQS
import Derived.Test.YtacdfjlncfidgaaGreatDoorQR
namespace Go.Proofs.YtacdfjlncfidgaaGreatDoor
open Go.RowKit
set_option linter.unusedVariables false
set_option linter.unusedSimpArgs false
set_option maxRecDepth 1000000
set_option maxHeartbeats 6400000
theorem qmP (s:ByteArray) (P:Nat) (w:World) (h:Scan s.data.toList P) (hz:s.data.toList[0]?≠some 48) (hP:P+2<s.size) (hPs:s.size≤P+5) (he:s.data.toList[P]?=some 101) (hg:s.data.toList[P+1]?=some 43) (hds:∀ k c,P+2≤k→s.data.toList[k]?=some c→qf c=true) :
  Calls Tryz.prog 213 #[.string s] w fun e w'=>e = .returned (.tuple #[.int .u64 (je s.data.toList P).mant,.int .i64 (JE (je s.data.toList P) (qM 0 (s.data.toList.drop (P+2)):Nat)),.bool false,.bool (je s.data.toList P).trunc,.bool false,.int .i64 s.size,.bool true])∧w=w':=by
 have hsz:s.data.toList.length=s.size:=rfl
 have hs3:3≤s.size:=h.size
 have hs60:s.size≤60:=h.most
 have hPle:P≤s.size:=h.le
 have hP2:=h.pos
 have H:=zxi h
 have HOK:=zxi h.ok
 have HL46:=zxi QM
 have HL101:=zxi ji
 obtain⟨c0,hc0,hd0⟩:=h.first
 have hget:∀ k (hk:k<s.size),s.data.toList[k]?=some s[k]:=fun k hk=>by rw[List.getElem?_eq_getElem (by rw[hsz];exact hk)];rfl
 have HGET:=zxi hget
 have hp0:0<s.size:=by omega
 have hne:¬ s=ByteArray.empty:=by rintro rfl;simp at hs3
 have hp1:1<s.size:=by omega
 have e0:(s[0]'hp0)=c0:=Option.some.inj ((hget 0 zxo).symm.trans hc0)
 obtain⟨c1,e1⟩:∃ c,(s[1]'hp1)=c:=⟨_,rfl⟩
 have f1:¬ (c0.toNat:Int)<48:=by simp[qf] at hd0;omega
 have f2:¬ (57:Int)<(c0.toNat:Int):=by simp[qf] at hd0;omega
 have f43:((c0.toNat:Int) == 43)=false:=by simp;omega
 have f45:((c0.toNat:Int) == 45)=false:=by simp;omega
 have f48:((c0.toNat:Int) == 48)=false:=by
  exact qkP
 exact qww
theorem qnh (s:ByteArray) (P:Nat) (w:World) (h:Scan s.data.toList P) (hz:s.data.toList[0]?≠some 48) (hP:P+2<s.size) (hPs:s.size≤P+5) (he:s.data.toList[P]?=some 101) (hg:s.data.toList[P+1]?=some 45) (hds:∀ k c,P+2≤k→s.data.toList[k]?=some c→qf c=true) :
  Calls Tryz.prog 213 #[.string s] w fun e w'=>e = .returned (.tuple #[.int .u64 (je s.data.toList P).mant,.int .i64 (JE (je s.data.toList P) (-(qM 0 (s.data.toList.drop (P+2)):Nat))),.bool false,.bool (je s.data.toList P).trunc,.bool false,.int .i64 s.size,.bool true])∧w=w':=by
 have hsz:s.data.toList.length=s.size:=rfl
 have hs3:3≤s.size:=h.size
 have hs60:s.size≤60:=h.most
 have hPle:P≤s.size:=h.le
 have hP2:=h.pos
 have H:=zxi h
 have HOK:=zxi h.ok
 have HL46:=zxi QM
 have HL101:=zxi ji
 obtain⟨c0,hc0,hd0⟩:=h.first
 have hget:∀ k (hk:k<s.size),s.data.toList[k]?=some s[k]:=fun k hk=>by rw[List.getElem?_eq_getElem (by rw[hsz];exact hk)];rfl
 have HGET:=zxi hget
 have hp0:0<s.size:=by omega
 have hne:¬ s=ByteArray.empty:=by rintro rfl;simp at hs3
 have hp1:1<s.size:=by omega
 have e0:(s[0]'hp0)=c0:=Option.some.inj ((hget 0 zxo).symm.trans hc0)
 obtain⟨c1,e1⟩:∃ c,(s[1]'hp1)=c:=⟨_,rfl⟩
 have f1:¬ (c0.toNat:Int)<48:=by simp[qf] at hd0;omega
 have f2:¬ (57:Int)<(c0.toNat:Int):=by simp[qf] at hd0;omega
 have f43:((c0.toNat:Int) == 43)=false:=by simp;omega
 have f45:((c0.toNat:Int) == 45)=false:=by simp;omega
 have f48:((c0.toNat:Int) == 48)=false:=by
  exact qkP
 exact qwj
end Go.Proofs.YtacdfjlncfidgaaGreatDoor
