/- A part of what the claim leans on. -/
import Derived.Test.YtacdfjlncfidgaaGreatDoorQS
import Derived.Test.YtacdfjlncfidgaaGreatDoorQG
import Derived.Test.YtacdfjlncfidgaaGreatDoorQV
namespace Go.Proofs.YtacdfjlncfidgaaGreatDoor
open Go.RowKit
set_option linter.unusedVariables false
set_option linter.unusedSimpArgs false
set_option maxRecDepth 100000
set_option maxHeartbeats 3200000
theorem ql1 (k:Nat):10^k≤2^(10*(k/3)+4*(k%3)):=by
 have e:k=3*(k/3)+k%3:=(Nat.div_add_mod k 3).symm
 conv=>lhs;rw[e]
 rw[Nat.pow_add,Nat.pow_add,Nat.pow_mul,Nat.pow_mul,Nat.pow_mul]
 exact Nat.mul_le_mul (Nat.pow_le_pow_left zxd _) (Nat.pow_le_pow_left zxd _)
theorem qcQ (k:Nat) (hk:k≤1060):(qC (10^k)).length≤230:=by
 obtain⟨c,hc⟩:∃ c,c=230:=⟨_,rfl⟩
 rw[← hc]
 refine jn c _ (Nat.lt_of_le_of_lt (ql1 k) ?_)
 exact qrf
theorem qbH (k:Nat) (w:World) (hk:k≤1060):Calls Tryz.prog 148 #[.int .i64 (k:Int)] w fun e w'=>QH (10^k) e w'∧Below w.heap.size w w':=by
 have HT:=zxi (fun i (hi:i≤k)=>qcQ i zxo)
 have H10:(qC 10).length≤4:=jn 4 10 zxd
 go_enter Tryz.func148,Tryz.ntmps148
 go_wp2_with fail
 refine(qjb w).mono ?_
 rintro e w1 ⟨⟨A,c,rfl,_,hr⟩,hb⟩
 have HR:=zxi hr
 have HB:=zxi hb
 have hc1:(qC 1).length≤230:=Nat.le_trans (jn 1 1 zxd) zxd
 clear hr hb
 go_wp2_with fail
 go_loopw [3,4] (fun pv iv wr=>∃ (i:Nat) (A:Option Addr) (c:Nat),pv = .slice A (qC (10^i)).length c∧iv = .int .i64 i∧i≤k∧(qC (10^i)).length≤c∧RowOf uc 1 wr wr.heap.size A (qC (10^i))∧Below w.heap.size w wr) (fun _ iv _=>k-(intOf iv).toNat)
 case atStart=>exact⟨0,A,c,rfl,rfl,Nat.zero_le _,by assumption,HR.out,HB.out⟩
 case round =>
  obtain⟨i,A,c,rfl,rfl,hi,hc,hr,hb⟩:=hrel
  have HR:=zxi hr
  have HB:=zxi hb
  clear hr hb
  by_cases hlt:i<k
  · have hl:=HT.out i hi
    go_wp2_with fail
    refine(qoO w 10 wr A _ zxd HB.out HR.out).mono ?_
    rintro e w2 ⟨⟨⟨B,cb,rfl,_,hrB⟩,hrA⟩,hb2⟩
    have HT2:=zxi (Je (10^i) 10 A B c cb w2 zxo zxo hrA hrB)
    have HB2:=zxi hb2
    clear hrB hrA hb2
    go_wp2_with fail
    refine HT2.out.mono ?_
    rintro e w3 ⟨⟨E,ce,rfl,hce,hrE⟩,hb3⟩
    have HB3:=zxi (qa HB2.out hb3)
    have HRE:=zxi hrE
    have HCE:=zxi hce
    clear hrE hb3 hce
    go_wp2_with fail
    refine⟨⟨i+1,E,ce,by rw[Nat.pow_succ],by go_num,by omega,by rw[Nat.pow_succ];exact HCE.out,by rw[Nat.pow_succ];exact HRE.out,HB3.out⟩,by simp[intOf];omega⟩
  · obtain rfl:i=k:=by omega
    go_wp2_with fail
    go_ret
    exact⟨⟨A,c,rfl,hc,HR.out⟩,HB.out⟩
theorem qdS (c:UInt8) (w:World):Calls Tryz.prog 160 #[.int .u8 c.toNat] w fun e w'=>e = .returned (.bool (qf c))∧w=w':=by
 have HI:=zxi (show qf c=(decide (48≤c.toNat)&&decide (c.toNat≤57)) from rfl)
 by_cases h1:48≤c.toNat
 · by_cases h2:c.toNat≤57
   · have hv:qf c=true:=by rw[HI.out,decide_eq_true h1,decide_eq_true h2];rfl
     have HV:=zxi hv
     have g1:(48:Int)≤(c.toNat:Int):=by omega
     have g2:(c.toNat:Int)≤57:=by omega
     exact qmN
   · have hv:qf c=false:=by rw[HI.out,decide_eq_false h2,Bool.and_false]
     have HV:=zxi hv
     have g1:(48:Int)≤(c.toNat:Int):=by omega
     have g2:¬ (c.toNat:Int)≤57:=by omega
     exact qmN
 · have hv:qf c=false:=by rw[HI.out,decide_eq_false h1,Bool.false_and]
   have HV:=zxi hv
   have g1:¬ (48:Int)≤(c.toNat:Int):=by omega
   exact qmN
theorem qV (s:ByteArray) (a:Nat) (w:World) (hs:s.size≤1000000) (ha:a≤s.size):Calls Tryz.prog 143 #[.string s,.int .i64 (a:Int)] w fun e w'=>e = .returned (.int .i64 (digN (s.data.toList.drop a):Nat))∧w=w':=by
 have hsz:s.data.toList.length=s.size:=rfl
 have HGET:=zxi (fun k (hk:k<s.size)=>by rw[List.getElem?_eq_getElem (by rw[hsz];exact hk)];rfl:∀ k (hk:k<s.size),s.data.toList[k]?=some s[k])
 go_enter Tryz.func143,Tryz.ntmps143
 go_wp2_with fail
 go_loopw [5] (fun nv wr=>∃ n:Nat,nv = .int .i64 n∧a+n≤s.size∧(∀ c∈(s.data.toList.drop a).take n,qf c=true)∧w=wr) (fun nv _=>s.size-(intOf nv).toNat)
 case atStart=>exact⟨0,rfl,ha,fun c hc=>by simp at hc,rfl⟩
 case round =>
  obtain⟨n,rfl,hn,hall,rfl⟩:=hrel
  have HALL:=zxi hall
  clear hall
  obtain⟨m,hm⟩:∃ m,a+n=m:=⟨_,rfl⟩
  have e1:(a:Int)+(n:Int)=(m:Int):=by omega
  have HM:=zxi hm
  by_cases hlt:m<s.size
  · obtain⟨c,hc⟩:∃ c,s[m]=c:=⟨_,rfl⟩
    have HC:=zxi ((HGET.out m hlt).trans (congrArg some hc))
    have hlt2:(m:Int)<(s.size:Int):=by omega
    have g0:(0:Int)≤(m:Int):=by omega
    cases hd:qf c
    · have HDC:=zxi (fun W=>qdS c W)
      rw[hd] at HDC
      have HD:=zxi hd
      clear hd hm
      go_wp2_with (go_at_call 160;refine(HDC.out _).mono ?_;rintro e wx ⟨rfl,rfl⟩)
      go_ret
      refine⟨?_,rfl⟩
      have hmm:=HM.out
      have hv:digN (s.data.toList.drop a)=n:=qaj (by rw[List.length_drop];omega) HALL.out (.inr ⟨c,by rw[List.getElem?_drop,hmm];exact HC.out,HD.out⟩)
      rw[hv]
      rfl
    · have HDC:=zxi (fun W=>qdS c W)
      rw[hd] at HDC
      have HD:=zxi hd
      clear hd hm
      go_wp2_with (go_at_call 160;refine(HDC.out _).mono ?_;rintro e wx ⟨rfl,rfl⟩)
      have hmm:=HM.out
      refine⟨⟨n+1,by go_num,by omega,fun d hd=>?_,by first | rfl | trivial⟩,by simp[intOf];omega⟩
      rw[List.take_add_one,List.getElem?_drop,hmm,HC.out] at hd
      rcases List.mem_append.1 hd with h | h
      · exact HALL.out d h
      · simp at h;rw[h];exact HD.out
  · have hlt2:¬ (m:Int)<(s.size:Int):=by omega
    clear hm
    go_wp2_with fail
    go_ret
    refine⟨?_,rfl⟩
    have hmm:=HM.out
    have hv:digN (s.data.toList.drop a)=n:=qaj (by rw[List.length_drop];omega) HALL.out (.inl (by rw[List.length_drop];omega))
    rw[hv]
    rfl
theorem qg9 (M:Nat) (l:List UInt8):∀ acc,(∀ c∈l,qf c=true)→Lib.parseUintM M acc l = .ok (qM acc l)∨Lib.parseUintM M acc l = .range:=by
 induction l with
 | nil=>intro acc _;exact .inl rfl
 | cons c r ih =>
  intro acc hd
  have h1:48≤c.toNat∧c.toNat≤57:=by have:=hd c (List.mem_cons_self ..);simpa[qf] using this
  have h3:qM acc (c::r)=qM (acc*10+(c.toNat-48)) r:=rfl
  rw[h3,Lib.parseUintM,if_pos h1]
  split
  · exact .inr rfl
  · split
    · exact .inr rfl
    · exact ih _ (fun c hc=>hd c (List.mem_cons_of_mem _ hc))
theorem QK {l:List UInt8} (h:QG l=true):l≠[]∧(∀ c∈l,qf c=true)∧(l.length=1∨l[0]?≠some 48):=by
 unfold QG at h
 simp only[Bool.and_eq_true,Bool.or_eq_true,decide_eq_true_eq] at h
 obtain⟨⟨h1,h2⟩,h3⟩:=h
 refine⟨by intro e;rw[e] at h1;simp at h1,fun c hc=>?_,h3⟩
 have:l.takeWhile qf=l:=by
  have hp:=List.takeWhile_prefix (p:=qf) (l:=l)
  exact hp.eq_of_length h2
 have hall:∀ (l:List UInt8),∀ c∈l.takeWhile qf,qf c=true:=by
  intro l
  induction l with
  | nil=>intro c hc;cases hc
  | cons a t ih =>
   intro c hc
   rw[List.takeWhile_cons] at hc
   by_cases ha:qf a=true
   · rw[if_pos ha] at hc
     rcases List.mem_cons.mp hc with rfl | hc
     · exact ha
     · exact ih c hc
   · rw[if_neg ha] at hc;cases hc
 rw[← this] at hc
 exact hall l c hc
def qtB:Lib.NumEnd Nat→Lib.NumEnd Int
 | .range=>.range
 | .ok u=>if 9223372036854775808≤u then .range else .ok (u:Int)
 | _=>Lib.parseIntB 64 []
theorem qaz {l:List UInt8} (hne:l≠[]) (hd:∀ c∈l,qf c=true) {r:Lib.NumEnd Nat} (hv:Lib.parseUintB 64 l=r) :
  Lib.parseIntB 64 l=qtB r:=by
 cases l with
 | nil=>exact absurd rfl hne
 | cons c t =>
  have h1:48≤c.toNat∧c.toNat≤57:=by have:=hd c (List.mem_cons_self ..);simpa[qf] using this
  unfold Lib.parseIntB
  simp only
  rw[if_neg zxo,hv]
  have hneg:¬ c.toNat=45:=by omega
  rcases r with u | _ | _
  · simp[hneg,qtB]
  · rfl
  · rfl
theorem qez {l:List UInt8} (h:QG l=true) (hv:qM 0 l≤9223372036854775807):Lib.parseIntB 64 l = .ok (qM 0 l:Nat):=by
 obtain⟨hne,hd,_⟩:=QK h
 have h1:Lib.parseUintB 64 l = .ok (qM 0 l):=by
  unfold Lib.parseUintB
  rw[if_neg hne]
  exact qg4 (2^64-1) zxd l 0 hd zxo
 rw[qaz hne hd h1]
 show(if 9223372036854775808≤qM 0 l then Lib.NumEnd.range else Lib.NumEnd.ok ((qM 0 l:Nat):Int))=_
 rw[if_neg zxo]
theorem qeY {l:List UInt8} (h:QG l=true) (hv:9223372036854775807<qM 0 l):Lib.parseIntB 64 l = .range:=by
 obtain⟨hne,hd,_⟩:=QK h
 have h1:Lib.parseUintB 64 l = .ok (qM 0 l)∨Lib.parseUintB 64 l = .range:=by
  unfold Lib.parseUintB
  rw[if_neg hne]
  exact qg9 (2^64-1) l 0 hd
 rcases h1 with h1 | h1
 · rw[qaz hne hd h1]
   show(if 9223372036854775808≤qM 0 l then Lib.NumEnd.range else Lib.NumEnd.ok ((qM 0 l:Nat):Int))=_
   rw[if_pos zxo]
 · rw[qaz hne hd h1]
   rfl
theorem qsG (s:ByteArray) (hs:s.size≤1000000) (hn:QG s.data.toList=true) (hv:qM 0 s.data.toList≤9223372036854775807) (w:World) :
  Calls Tryz.prog 172 #[.string s] w fun e w'=>e = .returned (.tuple #[.int .i64 (qM 0 s.data.toList:Nat),.int .i64 0])∧Below w.heap.size w w' :=
 qoI s _ zxo hn (qez hn hv) w
theorem qlw (s:ByteArray) (hs:s.size≤1000000) (hn:QG s.data.toList=true) (hv:9223372036854775807<qM 0 s.data.toList) (w:World) (hG:Glob2 w) :
  Calls Tryz.prog 172 #[.string s] w fun e w'=>e = .returned (.tuple #[.int .i64 0,.int .i64 3])∧Below w.heap.size w w':=by
 obtain⟨ev,h1,h2⟩:=hG.err
 have HN:=zxi (qA s w zxo)
 have HP:=zxi (Tryz.strconv_ParseInt_10_at64_range s zxo (qeY hn hv) ev w h1 h2)
 rw[hn] at HN
 clear hn hv h1 h2 hG
 go_enter Tryz.func172,Tryz.ntmps172
 go_wp2_with (first | (go_at_call 182;refine HN.out.mono ?_;rintro e w' ⟨rfl,rfl⟩) | (go_at_call 183;refine HP.out.mono ?_;rintro e w1 ⟨N,rfl,_,_,hw1⟩))
 go_ret2
 exact⟨rfl,hw1⟩
theorem qeb (l:List UInt8) (i:Nat) {c:UInt8} (hc:l[i]?=some c):qM 0 (l.take (i+1))=qM 0 (l.take i)*10+(c.toNat-48):=by
 have h:l.take (i+1)=l.take i++[c]:=by rw[List.take_add_one,hc];rfl
 rw[h,qdy]
theorem qc9 (l:List UInt8) (i:Nat):qM 0 (l.take i)≤qM 0 l:=by
 have h:qM 0 l=qM (qM 0 (l.take i)) (l.drop i):=by
  unfold qM
  rw[← List.foldl_append,List.take_append_drop]
 rw[h]
 exact qhs _ _
theorem JS (s:ByteArray) (hs:s.size≤1000000) (hn:QG s.data.toList=true) (w:World) :
  Calls Tryz.prog 129 #[.string s] w fun e w'=>e = .returned (if qM 0 s.data.toList≤9223372036854775807 then .tuple #[.int .i64 (qM 0 s.data.toList:Nat),.int .i64 0] else .tuple #[.int .i64 0,.int .i64 3])∧w=w':=by
 obtain⟨hne,hd,h1⟩:=QK hn
 have hsz:s.data.toList.length=s.size:=rfl
 have hpos:0<s.size:=by rw[← hsz];exact List.length_pos_iff.2 hne
 have HGET:=zxi (fun k (hk:k<s.size)=>by rw[List.getElem?_eq_getElem (by rw[hsz];exact hk)];rfl:∀ k (hk:k<s.size),s.data.toList[k]?=some s[k])
 have HRUN:=zxi (qV s 0 w hs (Nat.zero_le _))
 have hrv:digN (s.data.toList.drop 0)=s.size:=by rw[List.drop_zero,JV _ hd];exact hsz
 rw[hrv] at HRUN
 have HDIG:=zxi hd
 obtain⟨c,hc⟩:∃ c,s[0]=c:=⟨_,rfl⟩
 have HC:=zxi hc
 have hz:s.size=1∨c.toNat≠48:=by
  rcases h1 with h1 | h1
  · exact .inl (by rw[← hsz];exact h1)
  · refine .inr fun e=>h1 ?_
    rw[HGET.out 0 hpos,hc]
    congr 1
    exact UInt8.toNat_inj.1 (by rw[e];rfl)
 clear hn hne hd h1 hrv
 obtain⟨R,hR⟩:∃ R,(if qM 0 s.data.toList≤9223372036854775807 then Value.tuple #[.int .i64 (qM 0 s.data.toList:Nat),.int .i64 0] else .tuple #[.int .i64 0,.int .i64 3])=R:=⟨_,rfl⟩
 rw[hR]
 have HR:=zxi hR
 clear hR
 have main:(¬ (1:Int)<(s.size:Int))∨((1:Int)<(s.size:Int)∧¬ (c.toNat:Int)=48):=by
  rcases hz with h | h
  · exact .inl zxo
  · by_cases h2:(1:Int)<(s.size:Int)
    · exact .inr ⟨h2,by omega⟩
    · exact .inl h2
 have hp2:¬ (s.size:Int)=0:=by omega
 have hemp:¬ s=ByteArray.empty:=fun e=>by rw[e] at hpos;exact absurd hpos zxd
 have hp3:(0:Int)<(s.size:Int):=by omega
 have HP:=zxi hpos
 clear hz
 rcases main with m1 | ⟨m1,m2⟩
 ·
  go_enter Tryz.func129,Tryz.ntmps129
  go_wp2_with (go_at_call 143;refine HRUN.out.mono ?_;rintro e wx ⟨rfl,rfl⟩)
  go_loopw [4,5] (fun dv iv wr=>∃ i d:Nat,dv = .int .i64 d∧iv = .int .i64 i∧i≤s.size∧d=qM 0 (s.data.toList.take i)∧d≤9223372036854775807∧w=wr) (fun _ iv _=>s.size-(intOf iv).toNat)
  case atStart=>exact⟨0,0,rfl,rfl,Nat.zero_le _,rfl,by decide,rfl⟩
  case round =>exact qwx
 · have e0:((s.size:Int) == 0)=false:=by simpa using hp2
   have e1:((c.toNat:Int) == 48)=false:=by simpa using m2
   go_enter Tryz.func129,Tryz.ntmps129
   go_wp2_with (go_at_call 143;refine HRUN.out.mono ?_;rintro e wx ⟨rfl,rfl⟩)
   go_loopw [4,5] (fun dv iv wr=>∃ i d:Nat,dv = .int .i64 d∧iv = .int .i64 i∧i≤s.size∧d=qM 0 (s.data.toList.take i)∧d≤9223372036854775807∧w=wr) (fun _ iv _=>s.size-(intOf iv).toNat)
   case atStart=>exact⟨0,0,rfl,rfl,Nat.zero_le _,rfl,by decide,rfl⟩
   case round =>exact qwx
theorem qbA (s:ByteArray) (hs:s.size≤1000000) (hn:QG s.data.toList=false) (w:World) :
  Calls Tryz.prog 129 #[.string s] w fun e w'=>e = .returned (.tuple #[.int .i64 0,.int .i64 4])∧w=w':=by
 have hsz:s.data.toList.length=s.size:=rfl
 by_cases h0:s.size=0
 · obtain rfl:s=ByteArray.empty:=ByteArray.ext (Array.eq_empty_of_size_eq_zero h0)
   clear hn hsz h0 hs
   go_enter Tryz.func129,Tryz.ntmps129
   exact qpC
 · have hpos:0<s.size:=by omega
   have he:s.data.toList.isEmpty=false:=by
    exact qp2
   have hget:s.data.toList[0]?=some s[0]:=by rw[List.getElem?_eq_getElem (by rw[hsz];exact hpos)];rfl
   have HV:=zxi (show QG s.data.toList=(decide (digN s.data.toList=s.size)&&(decide (s.size=1)||decide (s[0]≠48))) by simp[QG,he,hsz,hget])
   rw[hn] at HV
   have HRUN:=zxi (qV s 0 w hs (Nat.zero_le _))
   rw[List.drop_zero] at HRUN
   obtain⟨c,hc⟩:∃ c,s[0]=c:=⟨_,rfl⟩
   rw[hc] at HV
   obtain⟨d,hd⟩:∃ d,digN s.data.toList=d:=⟨_,rfl⟩
   rw[hd] at HV HRUN
   have hp2:¬ (s.size:Int)=0:=by omega
   have hp3:(0:Int)<(s.size:Int):=by omega
   have e0:((s.size:Int) == 0)=false:=by simpa using hp2
   have hemp:¬ s=ByteArray.empty:=fun e=>h0 (by rw[e];rfl)
   clear hn he hget hd
   by_cases h1:d=s.size
   · subst h1
     have h3:¬ s.size=1∧c=48:=by
      have:=HV.out
      simpa using this.symm
     have m1:(1:Int)<(s.size:Int):=by omega
     have m2:(c.toNat:Int)=48:=by rw[h3.2];rfl
     have e1:((c.toNat:Int) == 48)=true:=by simpa using m2
     have HH:=zxi h3
     clear h3
     go_enter Tryz.func129,Tryz.ntmps129
     go_wp2_with (go_at_call 143;refine HRUN.out.mono ?_;rintro e wx ⟨rfl,rfl⟩)
     go_ret2
     exact⟨rfl,rfl⟩
   · have h1':¬ (d:Int)=(s.size:Int):=by omega
     have hb:((d:Int) != (s.size:Int))=true:=by simpa using h1'
     clear h1
     go_enter Tryz.func129,Tryz.ntmps129
     go_wp2_with (go_at_call 143;refine HRUN.out.mono ?_;rintro e wx ⟨rfl,rfl⟩)
     all_goals
      go_ret2
      exact⟨rfl,rfl⟩
theorem qiR (l:List UInt8):∀ acc,(∀ c∈l,qf c=true)→qM acc l<(acc+1)*10^l.length:=by
 induction l with
 | nil=>intro acc _;show acc<(acc+1)*10^0;omega
 | cons c r ih =>
  intro acc hd
  have h1:48≤c.toNat∧c.toNat≤57:=by have:=hd c (List.mem_cons_self ..);simpa[qf] using this
  have h3:qM acc (c::r)=qM (acc*10+(c.toNat-48)) r:=rfl
  rw[h3]
  refine Nat.lt_of_lt_of_le (ih _ (fun c hc=>hd c (List.mem_cons_of_mem _ hc))) ?_
  rw[List.length_cons,Nat.pow_succ,Nat.mul_comm (10^r.length) 10,← Nat.mul_assoc]
  exact Nat.mul_le_mul_right _ zxo
theorem qfy (l:List UInt8) (hd:∀ c∈l,qf c=true) (hl:l.length≤3):qM 0 l≤999:=by
 have h:=qiR l 0 hd
 have h2:(10:Nat)^l.length≤10^3:=Nat.pow_le_pow_right zxd hl
 omega
theorem QW {c d:UInt8} (h:c≠d):¬ (c.toNat:Int)=(d.toNat:Int):=fun e=>h (UInt8.toNat_inj.1 zxo)
theorem qnE (s:ByteArray) (q:Nat) (hs:s.size≤q+3) (hq0:q<s.size) (hd:∀ c∈s.data.toList.drop q,qf c=true)
  (hq:(q=0∧s[0]'zxo≠43∧s[0]'zxo≠45)∨(q=1∧s[0]'zxo=43)∨(q=1∧s[0]'zxo=45)) (w:World) :
  Calls Tryz.prog 144 #[.string s] w fun e w'=>e = .returned (.tuple #[.int .i64 (if s[0]'zxo=45 then -((qM 0 (s.data.toList.drop q):Nat):Int) else ((qM 0 (s.data.toList.drop q):Nat):Int)),.bool true])∧w=w':=by
 have hsz:s.data.toList.length=s.size:=rfl
 have hq1:q≤1:=by omega
 have HGET:=zxi (fun k (hk:k<s.size)=>by rw[List.getElem?_eq_getElem (by rw[hsz];exact hk)];rfl:∀ k (hk:k<s.size),s.data.toList[k]?=some s[k])
 have hlen:(s.data.toList.drop q).length=s.size-q:=by rw[List.length_drop];rfl
 have HRUN:=zxi (qV s q w zxo zxo)
 rw[JV _ hd,hlen] at HRUN
 have hV:=qfy _ hd zxo
 obtain⟨V,hVe⟩:∃ V,qM 0 (s.data.toList.drop q)=V:=⟨_,rfl⟩
 rw[hVe] at hV ⊢
 have HV:=zxi hVe
 have HDIG:=zxi hd
 obtain⟨c,hc⟩:∃ c,s[0]'zxo=c:=⟨_,rfl⟩
 rw[hc] at hq ⊢
 obtain⟨R,hR⟩:∃ R:Int,(if c=45 then -(V:Int) else (V:Int))=R:=⟨_,rfl⟩
 rw[hR]
 have HR:=zxi hR
 have hp2:¬ (s.size:Int)=0:=by omega
 have hp3:(0:Int)<(s.size:Int):=by omega
 have e0:((s.size:Int) == 0)=false:=by simpa using hp2
 have hemp:¬ s=ByteArray.empty:=fun e=>by rw[e] at hq0;exact absurd hq0 (Nat.not_lt_zero _)
 have g1:((s.size-q:Nat):Int)=(s.size:Int)-(q:Int):=by omega
 clear hlen hd hVe hR
 rcases hq with⟨rfl,k1,k2⟩ | ⟨rfl,k1⟩ | ⟨rfl,k1⟩
 · have n1:¬ (c.toNat:Int)=43:=QW k1
   have n2:¬ (c.toNat:Int)=45:=QW k2
   have b1:((c.toNat:Int) == 43)=false:=by simpa using n1
   have b2:((c.toNat:Int) == 45)=false:=by simpa using n2
   have HR2:=zxi (show R=(V:Int) by rw[← HR.out,if_neg k2])
   clear k1 k2
   go_enter Tryz.func144,Tryz.ntmps144
   go_wp2_with (go_at_call 143;refine HRUN.out.mono ?_;rintro e wx ⟨rfl,rfl⟩)
   go_loopw [5,6] (fun dv iv wr=>∃ i d:Nat,dv = .int .i64 d∧iv = .int .i64 i∧0≤i∧i≤s.size∧d=qM 0 ((s.data.toList.drop 0).take (i-0))∧d≤999∧w=wr) (fun _ iv _=>s.size-(intOf iv).toNat)
   case atStart=>exact⟨0,0,rfl,rfl,Nat.le_refl _,by omega,rfl,by decide,rfl⟩
   case round =>
    obtain⟨i,d,rfl,rfl,hqi,hi,hdv,hdm,rfl⟩:=hrel
    have HDV:=zxi hdv
    clear hdv
    by_cases hlt:i<s.size
    · obtain⟨x,hx⟩:∃ x,s[i]=x:=⟨_,rfl⟩
      have HX:=zxi ((HGET.out i hlt).trans (congrArg some hx))
      have hcd:=HDIG.out x (List.mem_of_getElem? (i:=i-0) (by rw[List.getElem?_drop,show 0+(i-0)=i by omega];exact HX.out))
      have hc1:48≤x.toNat∧x.toNat≤57:=by simpa[qf] using hcd
      obtain⟨k,hk⟩:∃ k,x.toNat=48+k:=⟨x.toNat-48,by omega⟩
      have hk9:k≤9:=by omega
      have hnx:qM 0 ((s.data.toList.drop 0).take (i+1-0))=d*10+k:=by rw[qac hqi HX.out,← HDV.out,hk];omega
      exact qpM
    · exact qsH
 · have n1:(c.toNat:Int)=43:=by rw[k1];rfl
   have b1:((c.toNat:Int) == 43)=true:=by simpa using n1
   have n2:¬ (c.toNat:Int)=45:=by omega
   have b2:((c.toNat:Int) == 45)=false:=by simpa using n2
   have n3:¬ (s.size:Int)=1:=by omega
   have b3:((s.size:Int) == 1)=false:=by simpa using n3
   have HR2:=zxi (show R=(V:Int) by rw[← HR.out,k1];rfl)
   exact qwM
 · have n2:(c.toNat:Int)=45:=by rw[k1];rfl
   have b2:((c.toNat:Int) == 45)=true:=by simpa using n2
   have n1:¬ (c.toNat:Int)=43:=by omega
   have b1:((c.toNat:Int) == 43)=false:=by simpa using n1
   have n3:¬ (s.size:Int)=1:=by omega
   have b3:((s.size:Int) == 1)=false:=by simpa using n3
   have HR2:=zxi (show R = -(V:Int) by rw[← HR.out,k1];rfl)
   exact qwM
theorem qdO (w:World):Calls Tryz.prog 144 #[.string ByteArray.empty] w fun e w'=>e = .returned (.tuple #[.int .i64 0,.bool false])∧w=w':=by
 go_enter Tryz.func144,Tryz.ntmps144
 exact qpC
theorem qtS (s:ByteArray) (q:Nat) (hs:s.size≤1000000) (hz:0<s.size) (hq0:q≤s.size)
  (hno:s.size=q∨q+3<s.size∨digN (s.data.toList.drop q)≠s.size-q)
  (hq:(q=0∧s[0]'zxo≠43∧s[0]'zxo≠45)∨(q=1∧s[0]'zxo=43)∨(q=1∧s[0]'zxo=45)) (w:World) :
  Calls Tryz.prog 144 #[.string s] w fun e w'=>e = .returned (.tuple #[.int .i64 0,.bool false])∧w=w':=by
 have HRUN:=zxi (qV s q w zxo zxo)
 obtain⟨d,hd⟩:∃ d,digN (s.data.toList.drop q)=d:=⟨_,rfl⟩
 rw[hd] at HRUN hno
 obtain⟨c,hc⟩:∃ c,s[0]'zxo=c:=⟨_,rfl⟩
 rw[hc] at hq
 have hp2:¬ (s.size:Int)=0:=by omega
 have hp3:(0:Int)<(s.size:Int):=by omega
 have e0:((s.size:Int) == 0)=false:=by simpa using hp2
 have hemp:¬ s=ByteArray.empty:=fun e=>by rw[e] at hz;exact absurd hz (Nat.not_lt_zero _)
 have main:(s.size:Int)=(q:Int)∨(¬ (s.size:Int)=(q:Int)∧(q:Int)+3<(s.size:Int))∨(¬ (s.size:Int)=(q:Int)∧¬ (q:Int)+3<(s.size:Int)∧¬ (d:Int)=(s.size:Int)-(q:Int)):=by omega
 clear hd hno
 rcases hq with⟨rfl,k1,k2⟩ | ⟨rfl,k1⟩ | ⟨rfl,k1⟩
 ·
  have n1:¬ (c.toNat:Int)=43:=QW k1
  have n2:¬ (c.toNat:Int)=45:=QW k2
  have b1:((c.toNat:Int) == 43)=false:=by simpa using n1
  have b2:((c.toNat:Int) == 45)=false:=by simpa using n2
  clear k1 k2
  have hrw:∀ (x:Int),x=x:=fun _=>rfl
  rcases main with m1 | ⟨m1,m2⟩ | ⟨m1,m2,m3⟩
  ·
   exact absurd m1 hp2
  ·
   have x1:¬ (s.size:Int)=0:=by omega
   have x2:((s.size:Int) == 0)=false:=by simpa using x1
   have x3:(3:Int)<(s.size:Int):=by omega
   go_enter Tryz.func144,Tryz.ntmps144
   go_wp2_with (go_at_call 143;refine HRUN.out.mono ?_;rintro e wx ⟨rfl,rfl⟩)
   all_goals
    go_ret2
    exact⟨rfl,rfl⟩
  ·
   have x1:¬ (s.size:Int)=0:=by omega
   have x2:((s.size:Int) == 0)=false:=by simpa using x1
   have x3:¬ (3:Int)<(s.size:Int):=by omega
   have x4:¬ (d:Int)=(s.size:Int)-0:=by omega
   have x5:((d:Int) != (s.size:Int)-0)=true:=by simpa using x4
   have x6:¬ (d:Int)=(s.size:Int):=by omega
   have x7:((d:Int) != (s.size:Int))=true:=by simpa using x6
   go_enter Tryz.func144,Tryz.ntmps144
   go_wp2_with (go_at_call 143;refine HRUN.out.mono ?_;rintro e wx ⟨rfl,rfl⟩)
   all_goals
    go_ret2
    exact⟨rfl,rfl⟩
 ·
  have n1:(c.toNat:Int)=43:=by rw[k1];rfl
  have b1:((c.toNat:Int) == 43)=true:=by simpa using n1
  have n2:¬ (c.toNat:Int)=45:=by omega
  have b2:((c.toNat:Int) == 45)=false:=by simpa using n2
  clear k1
  have hrw:∀ (x:Int),x=x:=fun _=>rfl
  rcases main with m1 | ⟨m1,m2⟩ | ⟨m1,m2,m3⟩
  ·
   have x1:(s.size:Int)=1:=by omega
   have x2:((s.size:Int) == 1)=true:=by simpa using x1
   go_enter Tryz.func144,Tryz.ntmps144
   go_wp2_with (go_at_call 143;refine HRUN.out.mono ?_;rintro e wx ⟨rfl,rfl⟩)
   all_goals
    go_ret2
    exact⟨rfl,rfl⟩
  ·
   have x1:¬ (s.size:Int)=1:=by omega
   have x2:((s.size:Int) == 1)=false:=by simpa using x1
   have x3:(4:Int)<(s.size:Int):=by omega
   go_enter Tryz.func144,Tryz.ntmps144
   go_wp2_with (go_at_call 143;refine HRUN.out.mono ?_;rintro e wx ⟨rfl,rfl⟩)
   all_goals
    go_ret2
    exact⟨rfl,rfl⟩
  ·
   have x1:¬ (s.size:Int)=1:=by omega
   have x2:((s.size:Int) == 1)=false:=by simpa using x1
   have x3:¬ (4:Int)<(s.size:Int):=by omega
   have x4:¬ (d:Int)=(s.size:Int)-1:=by omega
   have x5:((d:Int) != (s.size:Int)-1)=true:=by simpa using x4
   go_enter Tryz.func144,Tryz.ntmps144
   go_wp2_with (go_at_call 143;refine HRUN.out.mono ?_;rintro e wx ⟨rfl,rfl⟩)
   all_goals
    go_ret2
    exact⟨rfl,rfl⟩
 ·
  have n2:(c.toNat:Int)=45:=by rw[k1];rfl
  have b2:((c.toNat:Int) == 45)=true:=by simpa using n2
  have n1:¬ (c.toNat:Int)=43:=by omega
  have b1:((c.toNat:Int) == 43)=false:=by simpa using n1
  clear k1
  have hrw:∀ (x:Int),x=x:=fun _=>rfl
  rcases main with m1 | ⟨m1,m2⟩ | ⟨m1,m2,m3⟩
  ·
   have x1:(s.size:Int)=1:=by omega
   have x2:((s.size:Int) == 1)=true:=by simpa using x1
   go_enter Tryz.func144,Tryz.ntmps144
   go_wp2_with (go_at_call 143;refine HRUN.out.mono ?_;rintro e wx ⟨rfl,rfl⟩)
   all_goals
    go_ret2
    exact⟨rfl,rfl⟩
  ·
   have x1:¬ (s.size:Int)=1:=by omega
   have x2:((s.size:Int) == 1)=false:=by simpa using x1
   have x3:(4:Int)<(s.size:Int):=by omega
   go_enter Tryz.func144,Tryz.ntmps144
   go_wp2_with (go_at_call 143;refine HRUN.out.mono ?_;rintro e wx ⟨rfl,rfl⟩)
   all_goals
    go_ret2
    exact⟨rfl,rfl⟩
  ·
   have x1:¬ (s.size:Int)=1:=by omega
   have x2:((s.size:Int) == 1)=false:=by simpa using x1
   have x3:¬ (4:Int)<(s.size:Int):=by omega
   have x4:¬ (d:Int)=(s.size:Int)-1:=by omega
   have x5:((d:Int) != (s.size:Int)-1)=true:=by simpa using x4
   go_enter Tryz.func144,Tryz.ntmps144
   go_wp2_with (go_at_call 143;refine HRUN.out.mono ?_;rintro e wx ⟨rfl,rfl⟩)
   all_goals
    go_ret2
    exact⟨rfl,rfl⟩
end Go.Proofs.YtacdfjlncfidgaaGreatDoor
