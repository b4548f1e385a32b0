/- A part of what the claim leans on. -/
import Derived.Test.YtacdfjlncfidgaaGreatDoorQS
import Derived.Test.YtacdfjlncfidgaaGreatDoorRI
import Derived.Test.YtacdfjlncfidgaaGreatDoorRF
import Derived.Test.YtacdfjlncfidgaaGreatDoorRH
namespace Go.Proofs.YtacdfjlncfidgaaGreatDoor
open Go.RowKit
set_option linter.unusedVariables false
set_option linter.unusedSimpArgs false
set_option maxRecDepth 100000
set_option maxHeartbeats 12800000
def QN (L:BL) (i:Nat) (e:Ending):Prop:=∃ (k:Nat) (t:ByteArray) (a b:Nat),e = .returned (.tuple #[qcm k t a b,.int .i64 (qs eFv (L.drop i)).1]) ∧
 ((qs eFv (L.drop i)).1=0→k=(qs eFv (L.drop i)).2.1∧t.data.toList=(L.drop i).take (qs eFv (L.drop i)).2.2∧a=i∧b=i+(qs eFv (L.drop i)).2.2)
theorem jU {L:BL} {i:Nat} {er:Int} {K n:Nat} {k:Nat} {t:ByteArray} {a b:Nat} (h:qs eFv (L.drop i)=(er,K,n)) (h2:er=0→k=K∧t.data.toList=(L.drop i).take n∧a=i∧b=i+n):QN L i (.returned (.tuple #[qcm k t a b,.int .i64 er])) :=
 ⟨k,t,a,b,by rw[h],by rw[h];exact h2⟩
theorem u31:(match Tryz.prog.underlying 83 with | some (.struct _)=>true | _=>false)=true:=by kernel_rfl
theorem i31:(Tryz.prog.info? 83).map (·.size)=some 4:=by kernel_rfl
theorem qgD {w:World} {b:Nat} {x0 x1 x2 x3:Value} (h:w.heap[b]?=some (.cells #[x0,x1,x2,x3] 83 (0,0))):(loadVar 83 ⟨b,0,none⟩).run Tryz.prog w = .ok (.agg #[x0,x1,x2,x3]) w:=by
 have hu:=u31
 cases hd:Tryz.prog.underlying 83 with
 | none=>rw[hd] at hu;cases hu
 | some d =>
  rw[hd] at hu
  refine run_loadVar_row w b 83 83 _ (0,0) d h hd ?_ i31
  cases d<;>simp_all
theorem jN {L:BL} {i:Nat} {w0 W:World} {A:Nat} {tmps:Array Value} {u0 u1 u2 u3:Value} {k:Nat} {t:ByteArray} {a b:Nat} {er:Int}
  (hA:W.heap[A]?=some (.cells #[u0,u1,u2,u3] 83 (0,0))) (hle:w0.heap.size≤A) (hB:Below w0.heap.size w0 W) (hO:QN L i (.returned (.tuple #[qcm k t a b,.int .i64 er])))
  (h2:tmps.getD 4 undef = .pointer (some ⟨A,0,none⟩)) (h3:tmps.getD 5 undef = .int .i64 er) :
  bodyPost Tryz.prog Tryz.f108 (fun e w'=>QN L i e∧Below w0.heap.size w0 w') .ret { tmps:=tmps,defers:=[] } ((((W.setCell ⟨A,0,none⟩ (.int .i64 (k:Int))).setCell ⟨A,1,none⟩ (.string t)).setCell ⟨A,2,none⟩ (.int .i64 (a:Int))).setCell ⟨A,3,none⟩ (.int .i64 (b:Int))):=by
 refine bodyPost_ret (v:=.tuple #[qcm k t a b,.int .i64 er]) ?_ rfl ⟨hO,qaq hB hle⟩
 rw[results_cell_tmp rfl]
 simp only
 rw[h2,h3,show(asAddr (.pointer (some ⟨A,0,none⟩))).run Tryz.prog _ = .ok ⟨A,0,none⟩ _ from rfl]
 simp only[Result.andThen]
 rw[qgD (qcz hA)]
 rfl
theorem qmM {L:BL} {k:Nat} (h:atB Jr L k=true):k<L.length∧((L.drop k).takeWhile Jr).length=((L.drop (k+1)).takeWhile Jr).length+1:=by
 unfold atB at h
 split at h
 · rename_i c hc
   have hlt:=(List.getElem?_eq_some_iff.1 hc).1
   refine⟨hlt,?_⟩
   rw[List.drop_eq_getElem_cons hlt,(List.getElem?_eq_some_iff.1 hc).2,List.takeWhile_cons,if_pos h,List.length_cons]
 · cases h
theorem qrk {L:BL} {k:Nat} (h:atB Jr L k=false):((L.drop k).takeWhile Jr).length=0:=by
 unfold atB at h
 split at h
 · rename_i c hc
   have hlt:=(List.getElem?_eq_some_iff.1 hc).1
   rw[List.drop_eq_getElem_cons hlt,(List.getElem?_eq_some_iff.1 hc).2,List.takeWhile_cons,h];rfl
 · exact quf
theorem qlu (L:BL) (k:Nat):atB Jr L k=(atB jb L k||atB qf L k):=by
 unfold atB;cases L[k]?<;>rfl
theorem qcO {L:BL} {i:Nat}:qp (L.drop i)=if atB jb L i=true then ((L.drop i).takeWhile Jr).length else 0:=by
 unfold atB
 cases hd:L.drop i with
 | nil =>
  have:L[i]?=none:=by rw[List.getElem?_eq_none_iff];exact List.drop_eq_nil_iff.1 hd
  rw[this];simp[qp]
 | cons c r =>
  have hc:L[i]?=some c:=by have:=congrArg (fun l=>l[0]?) hd;simpa using this
  rw[hc];rfl
theorem Q2 (s:ByteArray) (i n:Nat):(s.extract i (i+n)).data.toList=(s.data.toList.drop i).take n:=by
 rw[ByteArray.data_extract,Array.toList_extract]
 simp[List.extract]
theorem qfH {s:ByteArray} {i n:Nat} (h:i+n≤s.size):(s.extract i (i+n)).size=n:=by
 show(s.extract i (i+n)).data.toList.length=n
 rw[Q2,List.length_take,List.length_drop];show min n (s.size-i)=n;omega
structure NS (w W:World) (k a b:Nat):Prop where
 r:W.heap[w.heap.size]?=some (.cells #[.int .i64 0,.string ⟨#[]⟩,.int .i64 0,.int .i64 0] 83 (0,0))
 t:W.heap[w.heap.size+1]?=some (.cells #[.int .i64 (k:Int),.string ⟨#[]⟩,.int .i64 (a:Int),.int .i64 (b:Int)] 83 (0,0))
 b:Below w.heap.size w W
theorem NS.start (w:World) (i:Nat):NS w ((w.alloc (.cells #[.int .i64 0,.string ⟨#[]⟩,.int .i64 0,.int .i64 0] 83)).alloc (.cells #[.int .i64 0,.string ⟨#[]⟩,.int .i64 (i:Int),.int .i64 0] 83)) 0 i 0 :=
 ⟨js (heap_alloc_new w _),by
  have:=heap_alloc_new (w.alloc (.cells #[.int .i64 0,.string ⟨#[]⟩,.int .i64 0,.int .i64 0] 83)) (.cells #[.int .i64 0,.string ⟨#[]⟩,.int .i64 (i:Int),.int .i64 0] 83)
  rwa [World.size_alloc] at this,((Below.refl _ _).alloc zxn _).alloc (by rw[World.size_alloc];omega) _⟩
theorem NS.begin (w:World) (k i b:Nat):NS w ((w.alloc (.cells #[.int .i64 0,.string ⟨#[]⟩,.int .i64 0,.int .i64 0] 83)).alloc (.cells #[.int .i64 (k:Int),.string ⟨#[]⟩,.int .i64 (i:Int),.int .i64 (b:Int)] 83)) k i b :=
 ⟨js (heap_alloc_new w _),by
  have:=heap_alloc_new (w.alloc (.cells #[.int .i64 0,.string ⟨#[]⟩,.int .i64 0,.int .i64 0] 83)) (.cells #[.int .i64 (k:Int),.string ⟨#[]⟩,.int .i64 (i:Int),.int .i64 (b:Int)] 83)
  rwa [World.size_alloc] at this,((Below.refl _ _).alloc zxn _).alloc (by rw[World.size_alloc];omega) _⟩
theorem NS.later {w W W':World} {k a b:Nat} (h:NS w W k a b) (hb:Below W.heap.size W W'):NS w W' k a b :=
 ⟨qe h.r hb,qe h.t hb,h.b.trans (hb.mono h.b.size)⟩
theorem NS.kind {w W:World} {k a b:Nat} (h:NS w W k a b) (x:Nat):NS w (W.setCell ⟨w.heap.size+1,0,none⟩ (.int .i64 (x:Int))) x a b :=
 ⟨(qu zxo).trans h.r,qU h.t,h.b.setCell (p:=⟨w.heap.size+1,0,none⟩) (by show w.heap.size≤w.heap.size+1;omega) _⟩
theorem NS.to {w W:World} {k a b:Nat} (h:NS w W k a b) (x:Nat):NS w (W.setCell ⟨w.heap.size+1,3,none⟩ (.int .i64 (x:Int))) k a x :=
 ⟨(qu zxo).trans h.r,qU h.t,h.b.setCell (p:=⟨w.heap.size+1,3,none⟩) (by show w.heap.size≤w.heap.size+1;omega) _⟩
theorem qgj (s:ByteArray) (i:Nat) (w:World) (hs:s.size≤999990) (hi:i<s.size) (hlet:atB jb s.data.toList i=true) :
  Calls Tryz.prog 108 #[.string s,.int .i64 (i:Int)] w fun e w'=>QN s.data.toList i e∧Below w.heap.size w w':=by
 have hsz:s.data.toList.length=s.size:=rfl
 have hsp:=qcO (L:=s.data.toList) (i:=i)
 rw[if_pos hlet] at hsp
 obtain⟨n,hn⟩:∃ n,qp (s.data.toList.drop i)=n:=⟨_,rfl⟩
 have hnl:=J7 (s.data.toList.drop i)
 rw[List.length_drop,hsz,hn] at hnl
 have hnp:0<n:=by
  have h1:=(qmM (L:=s.data.toList) (k:=i) (by rw[qlu,hlet];rfl)).2
  omega
 rw[hn] at hsp
 obtain⟨z,hz⟩:∃ z,i+n=z:=⟨_,rfl⟩
 have hzl:z≤s.size:=by omega
 have htk:qs eFv (s.data.toList.drop i)=(if jp resW ((s.data.toList.drop i).take n) then (0,2,n) else if 40<n then (3,1,n) else if (s.data.toList.drop i).take n=[95] then (9,1,n) else (0,1,n)):=by
  unfold qs;rw[hn,if_pos hnp];rfl
 obtain⟨T,hT⟩:∃ T,s.extract i z=T:=⟨_,rfl⟩
 have hTl:T.data.toList=(s.data.toList.drop i).take n:=by rw[← hT,← hz];exact Q2 s i n
 have hTs:T.size=n:=by rw[← hT,← hz];exact qfH zxo
 rw[← hTl] at htk
 have HL:=zxi (fun k (hk:k≤1000000) w=>JO s k w zxo zxo)
 have HD:=zxi (fun k (hk:k≤1000000) w=>qaN s k w zxo zxo)
 have HR:=zxi (fun w=>qdF T w)
 have HL0:=zxi (fun w=>HL.out i zxo w)
 rw[hlet] at HL0
 have HS0:=zxi (NS.start w i)
 have HST:=zxi (show i+((s.data.toList.drop i).takeWhile Jr).length=z by omega)
 have hiz:i≤z:=by omega
 have hiz':(i:Int)≤(z:Int):=by omega
 have hzl':(z:Int)≤(s.size:Int):=by omega
 have HTT:=zxi hT
 have HTK:=zxi htk
 have HTL:=zxi hTl
 have HZ:=zxi hz
 have HSZ:=zxi hsz
 clear hsp hn hnl hlet hT hTl htk hz hsz
 go_enter Tryz.func108,Tryz.ntmps108
 go_wp2_with fail
 refine(HL0.out _).mono ?_
 rintro e w9 ⟨rfl,rfl⟩
 go_wp2_with fail
 obtain⟨W0,hW0⟩:∃ W0,(w.alloc (.cells #[.int .i64 0,.string ⟨#[]⟩,.int .i64 0,.int .i64 0] 83)).alloc (.cells #[.int .i64 0,.string ⟨#[]⟩,.int .i64 (i:Int),.int .i64 0] 83)=W0:=⟨_,rfl⟩
 rw[hW0] at HS0
 simp only[hW0]
 clear hW0
 go_loopw [8] (fun iv wr=>∃ k:Nat,k≤z∧iv = .int .i64 k∧k+((s.data.toList.drop k).takeWhile Jr).length=z∧wr=W0) (fun iv _=>z-(intOf iv).toNat)
 case atStart=>exact⟨i,hiz,rfl,HST.out,rfl⟩
 case round =>
  obtain⟨k,hk,rfl,hkz,rfl⟩:=hrel
  have HC1:=zxi (HL.out k zxo wr)
  have HC2:=zxi (HD.out k zxo wr)
  cases h1:atB jb s.data.toList k with
  | true =>
   rw[h1] at HC1
   have h3:=(qmM (L:=s.data.toList) (k:=k) (by rw[qlu,h1];rfl)).2
   have HK:=zxi (show k+1+((s.data.toList.drop (k+1)).takeWhile Jr).length=z by omega)
   have hk1:k+1≤z:=by omega
   clear h1 h3 hkz
   go_wp2_with fail
   refine HC1.out.mono ?_
   exact qo6
  | false =>
   rw[h1] at HC1
   cases h2:atB qf s.data.toList k with
   | true =>
    rw[h2] at HC2
    have h3:=(qmM (L:=s.data.toList) (k:=k) (by rw[qlu,h2];simp)).2
    have HK:=zxi (show k+1+((s.data.toList.drop (k+1)).takeWhile Jr).length=z by omega)
    have hk1:k+1≤z:=by omega
    clear h1 h2 h3 hkz
    go_wp2_with fail
    refine HC1.out.mono ?_
    rintro e w2 ⟨rfl,rfl⟩
    go_wp2_with fail
    refine HC2.out.mono ?_
    exact qo6
   | false =>
    rw[h2] at HC2
    have h3:=qrk (L:=s.data.toList) (k:=k) (by rw[qlu,h1,h2];rfl)
    obtain rfl:k=z:=by omega
    have hT:=HTT.out
    have HN1:=zxi ((HS0.out.kind 1).to k)
    obtain⟨a0,a1,a2,a3,az,al⟩:=qq HS0.out.t
    obtain⟨b0,b1,b2,b3,bz,bl⟩:=qq HS0.out.r
    clear h1 h2 h3 hkz HST
    cases hr:jp resW T.data.toList with
    | true =>
     have HV:=zxi (show qs eFv (s.data.toList.drop i)=(0,2,n) by rw[HTK.out,hr];rfl)
     have HRR:=zxi HR.out
     rw[hr] at HRR
     clear hr
     go_wp2_with fail
     refine HC1.out.mono ?_
     rintro e w2 ⟨rfl,rfl⟩
     go_wp2_with fail
     refine HC2.out.mono ?_
     rintro e w2 ⟨rfl,rfl⟩
     go_wp2_with fail
     refine(HRR.out _).mono ?_
     rintro e w3 ⟨rfl,hb3⟩
     have HN2:=zxi (HN1.out.later hb3)
     obtain⟨d0,d1,d2,d3,dz,dl⟩:=qq HN2.out.t
     obtain⟨e0,e1,e2,e3,ez,el⟩:=qq HN2.out.r
     clear hb3
     go_wp2_with fail
     have HN3:=zxi (HN2.out.kind 2)
     exact jN ((qu zxo).trans HN3.out.r) zxn (HN3.out.b.setCell (p:=⟨w.heap.size+1,1,none⟩) (by show w.heap.size≤w.heap.size+1;omega) _) (jU (k:=2) (t:=T) (a:=i) (b:=k) HV.out (fun _=>⟨rfl,HTL.out,rfl,HZ.out.symm⟩)) rfl rfl
    | false =>
     have HRR:=zxi HR.out
     rw[hr] at HRR
     by_cases h40:40<n
     · have h40i:(40:Int)<(T.size:Int):=by omega
       have HV:=zxi (show qs eFv (s.data.toList.drop i)=(3,1,n) by rw[HTK.out,hr,if_neg Bool.false_ne_true,if_pos h40])
       clear hr h40
       exact qs6
     · have h40i:¬ (40:Int)<(T.size:Int):=by omega
       by_cases hu:T.data.toList=[95]
       · have s1:T.toList=[95]:=(JI T _).2 hu
         have s2:(T.toList == [95])=true:=by rw[s1];rfl
         have HV:=zxi (show qs eFv (s.data.toList.drop i)=(9,1,n) by rw[HTK.out,hr,if_neg Bool.false_ne_true,if_neg h40,if_pos hu])
         clear hr h40 hu
         exact qs6
       · have s1:¬ T.toList=[95]:=fun e=>hu ((JI T _).1 e)
         have s2:(T.toList == [95])=false:=by simpa using s1
         have HV:=zxi (show qs eFv (s.data.toList.drop i)=(0,1,n) by rw[HTK.out,hr,if_neg Bool.false_ne_true,if_neg h40,if_neg hu])
         clear hr h40 hu
         go_wp2_with fail
         refine HC1.out.mono ?_
         rintro e w2 ⟨rfl,rfl⟩
         go_wp2_with fail
         refine HC2.out.mono ?_
         rintro e w2 ⟨rfl,rfl⟩
         go_wp2_with fail
         refine(HRR.out _).mono ?_
         rintro e w3 ⟨rfl,hb3⟩
         have HN2:=zxi (HN1.out.later hb3)
         obtain⟨d0,d1,d2,d3,dz,dl⟩:=qq HN2.out.t
         obtain⟨e0,e1,e2,e3,ez,el⟩:=qq HN2.out.r
         clear hb3
         go_wp2_with fail
         exact jN ((qu zxo).trans HN2.out.r) zxn (HN2.out.b.setCell (p:=⟨w.heap.size+1,1,none⟩) (by show w.heap.size≤w.heap.size+1;omega) _) (jU (k:=1) (t:=T) (a:=i) (b:=k) HV.out (fun _=>⟨rfl,HTL.out,rfl,HZ.out.symm⟩)) rfl rfl
theorem qie (s:ByteArray) (i:Nat) (w:World) (hs:s.size≤999990) (hi:i<s.size) (hlet:atB jb s.data.toList i=false) (hdig:atB qf s.data.toList i=true) :
  Calls Tryz.prog 108 #[.string s,.int .i64 (i:Int)] w fun e w'=>QN s.data.toList i e∧Below w.heap.size w w':=by
 have hsz:s.data.toList.length=s.size:=rfl
 have hsp:=qcO (L:=s.data.toList) (i:=i)
 rw[if_neg (by rw[hlet];exact Bool.false_ne_true)] at hsp
 have hd0:0<digN (s.data.toList.drop i):=by have:=(JY hdig).2;omega
 have hnum:=fun w=>qoe s i w hs zxo hd0
 have hn0:0<(Qm (s.data.toList.drop i)).2:=by
  rcases Nat.eq_zero_or_pos (Qm (s.data.toList.drop i)).2 with h | h
  · have:=num_zero.1 h;omega
  · exact h
 have hle:=qcH (s.data.toList.drop i)
 rw[List.length_drop,hsz] at hle
 have htk:=jK hsp
 rw[if_pos hn0] at htk
 obtain⟨kd,hkd⟩:∃ kd,(Qm (s.data.toList.drop i)).1=kd:=⟨_,rfl⟩
 obtain⟨n,hn⟩:∃ n,(Qm (s.data.toList.drop i)).2=n:=⟨_,rfl⟩
 unfold qda at hnum
 simp only[hkd,hn] at hnum
 rw[hkd,hn] at htk
 rw[hn] at hle hn0
 obtain⟨z,hz⟩:∃ z,i+n=z:=⟨_,rfl⟩
 simp only[hz] at hnum
 have hzl:z≤s.size:=by omega
 obtain⟨T,hT⟩:∃ T,s.extract i z=T:=⟨_,rfl⟩
 have hTl:T.data.toList=(s.data.toList.drop i).take n:=by rw[← hT,← hz];exact Q2 s i n
 have hTs:T.size=n:=by rw[← hT,← hz];exact qfH zxo
 rw[← hTl] at htk
 have HL0:=zxi (fun w=>JO s i w zxo zxo)
 have HD0:=zxi (fun w=>qaN s i w zxo zxo)
 rw[hlet] at HL0
 rw[hdig] at HD0
 have HNU:=zxi hnum
 have HS0:=zxi (NS.start w i)
 have hiz':(i:Int)≤(z:Int):=by omega
 have hzl':(z:Int)≤(s.size:Int):=by omega
 obtain⟨er,her⟩:∃ er,(if kd=3 then qlS T.data.toList else eFv T.data.toList)=er:=⟨_,rfl⟩
 rw[her] at htk
 have HN1:=zxi (NS.begin w kd i z)
 obtain⟨a0,a1,a2,a3,az,al⟩:=qq HS0.out.t
 obtain⟨b0,b1,b2,b3,bz,bl⟩:=qq HS0.out.r
 have HV:=zxi htk
 have HTL:=zxi hTl
 have HZ:=zxi hz
 by_cases hk3:kd=3
 · subst hk3
   rw[if_pos rfl] at her
   have hI:∀ w,Calls Tryz.prog 129 #[.string T] w fun e w2=>(∃ v:Int,e = .returned (.tuple #[.int .i64 v,.int .i64 er]))∧Below w.heap.size w w2:=fun w=>by
    rw[← her]
    by_cases hnv:QG T.data.toList=true
    · have h:=JS T zxo hnv w
      unfold qlS
      rw[hnv]
      by_cases hv:qM 0 T.data.toList≤9223372036854775807
      · rw[if_pos hv] at h ⊢
        exact qqO
      · rw[if_neg hv] at h ⊢
        exact qqO
    · have hnv:QG T.data.toList=false:=by simpa using hnv
      unfold qlS
      rw[hnv]
      exact(qbA T zxo hnv w).mono fun e w2 ⟨h1,h2⟩=>⟨⟨_,h1⟩,by rw[h2];exact Below.refl _ _⟩
   clear her
   by_cases he0:er=0
   · subst he0
     have HI:=zxi hI
     clear hI hnum htk hkd hn hd0 hsp hlet hdig hTl hsz hz
     go_enter Tryz.func108,Tryz.ntmps108
     go_wp2_with fail
     refine(HL0.out _).mono ?_
     rintro e w9 ⟨rfl,rfl⟩
     go_wp2_with fail
     refine(HD0.out _).mono ?_
     rintro e w9 ⟨rfl,rfl⟩
     go_wp2_with fail
     refine(HNU.out _).mono ?_
     rintro e w9 ⟨rfl,rfl⟩
     go_wp2_with fail
     refine(HI.out _).mono ?_
     rintro e w3 ⟨⟨vv,rfl⟩,hb3⟩
     have HN2:=zxi (HN1.out.later hb3)
     obtain⟨d0,d1,d2,d3,dz,dl⟩:=qq HN2.out.t
     obtain⟨e0,e1,e2,e3,ez,el⟩:=qq HN2.out.r
     clear hb3
     go_wp2_with fail
     exact jN ((qu zxo).trans HN2.out.r) zxn (HN2.out.b.setCell (p:=⟨w.heap.size+1,1,none⟩) (by show w.heap.size≤w.heap.size+1;omega) _) (jU (k:=3) (t:=T) (a:=i) (b:=z) HV.out (fun _=>⟨rfl,HTL.out,rfl,HZ.out.symm⟩)) rfl rfl
   · have hen:(er == 0)=false:=beq_eq_false_iff_ne.2 he0
     have HI:=zxi hI
     clear hI hnum htk hkd hn hd0 hsp hlet hdig hTl hsz hz
     go_enter Tryz.func108,Tryz.ntmps108
     go_wp2_with fail
     refine(HL0.out _).mono ?_
     rintro e w9 ⟨rfl,rfl⟩
     go_wp2_with fail
     refine(HD0.out _).mono ?_
     rintro e w9 ⟨rfl,rfl⟩
     go_wp2_with fail
     refine(HNU.out _).mono ?_
     rintro e w9 ⟨rfl,rfl⟩
     go_wp2_with fail
     refine(HI.out _).mono ?_
     rintro e w3 ⟨⟨vv,rfl⟩,hb3⟩
     exact qpS
 · rw[if_neg hk3] at her
   have hk3b:((kd:Int) == 3)=false:=beq_eq_false_iff_ne.2 zxo
   obtain⟨f,_,hf⟩:=qmv T zxo
   rw[her] at hf
   have hI:=hf
   clear her hf
   by_cases he0:er=0
   · subst he0
     have HI:=zxi hI
     clear hI hnum htk hkd hn hd0 hsp hlet hdig hTl hsz hz
     go_enter Tryz.func108,Tryz.ntmps108
     go_wp2_with fail
     refine(HL0.out _).mono ?_
     rintro e w9 ⟨rfl,rfl⟩
     go_wp2_with fail
     refine(HD0.out _).mono ?_
     rintro e w9 ⟨rfl,rfl⟩
     go_wp2_with fail
     refine(HNU.out _).mono ?_
     rintro e w9 ⟨rfl,rfl⟩
     go_wp2_with fail
     refine(HI.out _).mono ?_
     rintro e w3 ⟨rfl,hb3⟩
     have HN2:=zxi (HN1.out.later hb3)
     obtain⟨d0,d1,d2,d3,dz,dl⟩:=qq HN2.out.t
     obtain⟨e0,e1,e2,e3,ez,el⟩:=qq HN2.out.r
     clear hb3
     go_wp2_with fail
     exact jN ((qu zxo).trans HN2.out.r) zxn (HN2.out.b.setCell (p:=⟨w.heap.size+1,1,none⟩) (by show w.heap.size≤w.heap.size+1;omega) _) (jU (k:=kd) (t:=T) (a:=i) (b:=z) HV.out (fun _=>⟨rfl,HTL.out,rfl,HZ.out.symm⟩)) rfl rfl
   · have hen:(er == 0)=false:=beq_eq_false_iff_ne.2 he0
     have HI:=zxi hI
     clear hI hnum htk hkd hn hd0 hsp hlet hdig hTl hsz hz
     go_enter Tryz.func108,Tryz.ntmps108
     go_wp2_with fail
     refine(HL0.out _).mono ?_
     rintro e w9 ⟨rfl,rfl⟩
     go_wp2_with fail
     refine(HD0.out _).mono ?_
     rintro e w9 ⟨rfl,rfl⟩
     go_wp2_with fail
     refine(HNU.out _).mono ?_
     rintro e w9 ⟨rfl,rfl⟩
     go_wp2_with fail
     refine(HI.out _).mono ?_
     rintro e w3 ⟨rfl,hb3⟩
     exact qpS
theorem qhT (L:BL) (i:Nat):∀ (f j:Nat) (b:BL),L.length-(i+j)≤f→quotAt (L.drop i) j b=(quotAt L (i+j) b).map (fun x=>(x.1,x.2-i)):=by
 intro f
 induction f with
 | zero =>
  intro j b h
  exact qtr
 | succ f ih =>
  intro j b h
  by_cases hlt:i+j<L.length
  · have hlt2:j<(L.drop i).length:=by rw[List.length_drop];omega
    have hg:(L.drop i)[j]=L[i+j]:=by rw[List.getElem_drop]
    rw[quotAt,dif_pos hlt2,hg]
    rw[quotAt.eq_1 L (i+j) b,dif_pos hlt]
    split
    · simp only[Option.map_some,Option.some.injEq,Prod.mk.injEq,true_and];omega
    · split
      · rfl
      · split
        · rw[List.drop_drop,← Nat.add_assoc]
          cases hes:Ja (L.drop (i+j+1)) with
          | none=>rfl
          | some xm =>
           obtain⟨x,m⟩:=xm
           have hm:=qfc hes
           simp only
           have:=ih (j+1+m) (b++[x]) zxo
           rw[this]
           rw[show i+(j+1+m)=i+j+1+m by omega]
        · have:=ih (j+1) (b++[L[i+j]]) zxo
          rw[this]
          rw[show i+(j+1)=i+j+1 by omega]
  · exact qtr
theorem qmD (L:BL) (i:Nat) (h:atB (· == 34) L i=true):Qr (L.drop i)=(quotAt L (i+1) []).map (fun x=>(x.1,x.2-i)):=by
 have hd:=Jb h
 have e:Qr (L.drop i)=quotAt (L.drop i) 1 []:=by
  rw[hd];show(if (34:UInt8).toNat=34 then quotAt (34::L.drop (i+1)) 1 [] else none)=_;rw[if_pos zxd]
 rw[e]
 exact qhT L i _ 1 [] zxn
theorem qgn {L:BL} {i:Nat} (h:atB (· == 34) L i=true):qs eFv (L.drop i)=(match Qr (L.drop i) with
  | some (v,n)=>((if 4096<v.length then 3 else 0),5,n)
  | none=>(4,0,0)):=by
 have hd:=Jb h
 rw[jK (by rw[hd];exact speltZ.2 zxd),hd,num_zero.2 (digN_zero.2 zxd),if_neg zxo]
 cases hq:Qr (34::L.drop (i+1)) with
 | some vn=>rfl
 | none =>
  simp only
  rw[if_neg zxs,if_neg]
  intro hm
  obtain⟨_,e2,w,hw,e3⟩:=qgH hm (z:=[])
  obtain⟨c',r',rfl,d1,_⟩:=qf5 w hw
  obtain⟨q,hq⟩:∃ q,jX (34::L.drop (i+1))=q+1:=⟨jX (34::L.drop (i+1))-1,by omega⟩
  rw[hq,List.take_succ_cons] at e3
  have:=(List.cons.inj e3).1
  rw[← this] at d1;exact d1 rfl
theorem qbS {s:ByteArray} {i:Nat} (h:i<s.size) (x:UInt8):atB (· == x) s.data.toList i=decide (s[i]=x):=by
 rw[qbw h]
 exact Bool.eq_iff_iff.2 zxs
theorem qiI (s:ByteArray) (i:Nat) (w:World) (hs:s.size≤999990) (hi:i<s.size) (hlet:atB jb s.data.toList i=false) (hdig:atB qf s.data.toList i=false) (h34:atB (· == 34) s.data.toList i=true) :
  Calls Tryz.prog 108 #[.string s,.int .i64 (i:Int)] w fun e w'=>QN s.data.toList i e∧Below w.heap.size w w':=by
 have hsz:s.data.toList.length=s.size:=rfl
 have HL0:=zxi (fun w=>JO s i w zxo zxo)
 have HD0:=zxi (fun w=>qaN s i w zxo zxo)
 rw[hlet] at HL0
 rw[hdig] at HD0
 have HS0:=zxi (NS.start w i)
 obtain⟨a0,a1,a2,a3,az,al⟩:=qq HS0.out.t
 obtain⟨b0,b1,b2,b3,bz,bl⟩:=qq HS0.out.r
 have hi2:(i:Int)<(s.size:Int):=by omega
 obtain⟨c,hc⟩:∃ c,s[i]=c:=⟨_,rfl⟩
 have htk:=qgn h34
 rw[qmD _ _ h34] at htk
 have hc34:c.toNat=34:=by rw[qbS hi,hc] at h34;have:c=34:=(by simpa using h34);rw[this];rfl
 have b34:((c.toNat:Int) == 34)=true:=beq_iff_eq.2 zxo
 have hqq:=fun w=>qoG s i w hs hi
 cases hq:quotAt s.data.toList (i+1) [] with
 | none =>
  rw[hq] at hqq htk
  have HQ:=zxi (show ∀ w,Calls Tryz.prog 131 #[.string s,.int .i64 (i:Int)] w fun e w'=>e = .returned (.tuple #[.string ⟨#[]⟩,.int .i64 0])∧Below w.heap.size w w' from hqq)
  have HV:=zxi (show qs eFv (s.data.toList.drop i)=(4,0,0) from htk)
  have hmx:max (0:Int) (i:Int)=(i:Int):=by omega
  clear hqq htk hq hlet hdig h34 hsz hc34
  go_enter Tryz.func108,Tryz.ntmps108
  go_wp2_with fail
  refine(HL0.out _).mono ?_
  rintro e w9 ⟨rfl,rfl⟩
  go_wp2_with fail
  refine(HD0.out _).mono ?_
  rintro e w9 ⟨rfl,rfl⟩
  go_wp2_with fail
  refine(HQ.out _).mono ?_
  rintro e w3 ⟨rfl,hb3⟩
  have HN2:=zxi (HS0.out.later hb3)
  obtain⟨d0,d1,d2,d3,dz,dl⟩:=qq HN2.out.t
  obtain⟨e0,e1,e2,e3,ez,el⟩:=qq HN2.out.r
  clear hb3
  go_wp2_with fail
  have HN3:=zxi ((HN2.out.kind 5).to i)
  exact qsd
 | some vn =>
  obtain⟨v,z⟩:=vn
  rw[hq] at hqq htk
  obtain⟨hq1,hq2⟩:=qdl _ _ _ _ _ _ zxn hq
  rw[hsz] at hq2
  obtain⟨n,hn⟩:∃ n,z-i=n:=⟨_,rfl⟩
  have hz:i+n=z:=by omega
  have HQ:=zxi (show ∀ w,Calls Tryz.prog 131 #[.string s,.int .i64 (i:Int)] w fun e w'=>e = .returned (.tuple #[.string (qn v),.int .i64 (z:Nat)])∧Below w.heap.size w w' from hqq)
  have hvs:(qn v).size=v.length:=by show(qn v).data.toList.length=_;rw[qj]
  generalize qn v=V at HQ hvs
  have htk:qs eFv (s.data.toList.drop i)=((if 4096<v.length then 3 else 0),5,z-i):=htk
  rw[hn] at htk
  obtain⟨T,hT⟩:∃ T,s.extract i z=T:=⟨_,rfl⟩
  have HTL:=zxi (show T.data.toList=(s.data.toList.drop i).take n by rw[← hT,← hz];exact Q2 s i n)
  have HZ:=zxi hz
  have hz0:(0:Int)<(z:Int):=by omega
  have hmx:max (z:Int) (i:Int)=(z:Int):=by omega
  have hiz:(i:Int)≤(z:Int):=by omega
  have hzl:(z:Int)≤(s.size:Int):=by omega
  by_cases h4:4096<v.length
  · have h4i:(4096:Int)<(V.size:Int):=by omega
    rw[if_pos h4] at htk
    have HV:=zxi htk
    clear hqq htk hq hlet hdig h34 hsz hc34 hn hz hvs h4
    go_enter Tryz.func108,Tryz.ntmps108
    go_wp2_with fail
    refine(HL0.out _).mono ?_
    rintro e w9 ⟨rfl,rfl⟩
    go_wp2_with fail
    refine(HD0.out _).mono ?_
    rintro e w9 ⟨rfl,rfl⟩
    go_wp2_with fail
    refine(HQ.out _).mono ?_
    rintro e w3 ⟨rfl,hb3⟩
    have HN2:=zxi (HS0.out.later hb3)
    obtain⟨d0,d1,d2,d3,dz,dl⟩:=qq HN2.out.t
    obtain⟨e0,e1,e2,e3,ez,el⟩:=qq HN2.out.r
    clear hb3
    go_wp2_with fail
    have HN3:=zxi ((HN2.out.kind 5).to z)
    exact qsd
  · have h4i:¬ (4096:Int)<(V.size:Int):=by omega
    rw[if_neg h4] at htk
    have HV:=zxi htk
    clear hqq htk hq hlet hdig h34 hsz hc34 hn hz hvs h4
    go_enter Tryz.func108,Tryz.ntmps108
    go_wp2_with fail
    refine(HL0.out _).mono ?_
    rintro e w9 ⟨rfl,rfl⟩
    go_wp2_with fail
    refine(HD0.out _).mono ?_
    rintro e w9 ⟨rfl,rfl⟩
    go_wp2_with fail
    refine(HQ.out _).mono ?_
    rintro e w3 ⟨rfl,hb3⟩
    have HN2:=zxi (HS0.out.later hb3)
    obtain⟨d0,d1,d2,d3,dz,dl⟩:=qq HN2.out.t
    obtain⟨e0,e1,e2,e3,ez,el⟩:=qq HN2.out.r
    clear hb3
    go_wp2_with fail
    have HN3:=zxi ((HN2.out.kind 5).to z)
    exact jN ((qu zxo).trans HN3.out.r) zxn (HN3.out.b.setCell (p:=⟨w.heap.size+1,1,none⟩) (by show w.heap.size≤w.heap.size+1;omega) _) (jU (k:=5) (t:=T) (a:=i) (b:=z) HV.out (fun _=>⟨rfl,HTL.out,rfl,HZ.out.symm⟩)) rfl rfl
theorem qgu (s:ByteArray) (i:Nat) (w:World) (hs:s.size≤999990) (hi:i<s.size) (hlet:atB jb s.data.toList i=false) (hdig:atB qf s.data.toList i=false) (h59:atB (· == 59) s.data.toList i=true) :
  Calls Tryz.prog 108 #[.string s,.int .i64 (i:Int)] w fun e w'=>QN s.data.toList i e∧Below w.heap.size w w':=by
 have hsz:s.data.toList.length=s.size:=rfl
 have HL0:=zxi (fun w=>JO s i w zxo zxo)
 have HD0:=zxi (fun w=>qaN s i w zxo zxo)
 rw[hlet] at HL0
 rw[hdig] at HD0
 have HS0:=zxi (NS.start w i)
 obtain⟨a0,a1,a2,a3,az,al⟩:=qq HS0.out.t
 obtain⟨b0,b1,b2,b3,bz,bl⟩:=qq HS0.out.r
 have hi2:(i:Int)<(s.size:Int):=by omega
 obtain⟨c,hc⟩:∃ c,s[i]=c:=⟨_,rfl⟩
 have hd:=Jb h59
 have htk:qs eFv (s.data.toList.drop i)=(0,7,1):=by
  rw[jK (by rw[hd];exact speltZ.2 zxd),hd,num_zero.2 (digN_zero.2 zxd),if_neg zxo,qce zxd]
  rfl
 have hc59:c.toNat=59:=by rw[qbS hi,hc] at h59;have:c=59:=(by simpa using h59);rw[this];rfl
 have b34:((c.toNat:Int) == 34)=false:=beq_eq_false_iff_ne.2 zxo
 have b59:((c.toNat:Int) == 59)=true:=beq_iff_eq.2 zxo
 obtain⟨z,hz⟩:∃ z,i+1=z:=⟨_,rfl⟩
 have hzi:(i:Int)+1=(z:Int):=by omega
 have hiz:(i:Int)≤(z:Int):=by omega
 have hzl:(z:Int)≤(s.size:Int):=by omega
 obtain⟨T,hT⟩:∃ T,s.extract i z=T:=⟨_,rfl⟩
 have HTL:=zxi (show T.data.toList=(s.data.toList.drop i).take 1 by rw[← hT,← hz];exact Q2 s i 1)
 have HZ:=zxi hz
 have HV:=zxi htk
 clear htk hd hlet hdig h59 hsz hc59 hz
 clear a0 a1 a2 a3 az al b0 b1 b2 b3 bz bl
 go_enter Tryz.func108,Tryz.ntmps108
 go_wp2_with fail
 refine(HL0.out _).mono ?_
 rintro e w9 ⟨rfl,rfl⟩
 go_wp2_with fail
 obtain⟨W0,hW0⟩:∃ W0,(w.alloc (.cells #[.int .i64 0,.string ⟨#[]⟩,.int .i64 0,.int .i64 0] 83)).alloc (.cells #[.int .i64 0,.string ⟨#[]⟩,.int .i64 (i:Int),.int .i64 0] 83)=W0:=⟨_,rfl⟩
 rw[hW0] at HS0
 simp only[hW0]
 clear hW0
 obtain⟨a0,a1,a2,a3,az,al⟩:=qq HS0.out.t
 obtain⟨b0,b1,b2,b3,bz,bl⟩:=qq HS0.out.r
 refine(HD0.out _).mono ?_
 rintro e w9 ⟨rfl,rfl⟩
 go_wp2_with fail
 have HN3:=zxi ((HS0.out.kind 7).to z)
 exact jN ((qu zxo).trans HN3.out.r) zxn (HN3.out.b.setCell (p:=⟨w.heap.size+1,1,none⟩) (by show w.heap.size≤w.heap.size+1;omega) _) (jU (k:=7) (t:=T) (a:=i) (b:=z) HV.out (fun _=>⟨rfl,HTL.out,rfl,HZ.out.symm⟩)) rfl rfl
def qaT (L:BL) (k:Nat):Option BL:=(marksL.drop k).find? (fun m=>m.isPrefixOf L)
theorem qlQ {L m:BL} {k:Nat} (hm:marksL[k]?=some m) (h:m.isPrefixOf L=true):qaT L k=some m:=by
 exact qs2
theorem qnt {L m:BL} {k:Nat} (hm:marksL[k]?=some m) (h:m.isPrefixOf L=false):qaT L k=qaT L (k+1):=by
 exact qs2
theorem qjj (L:BL):jX L=match qaT L 0 with | some m=>m.length | none=>0:=by
 have e:qaT L 0=(marks2++marks1).find? (fun m=>m.isPrefixOf L):=rfl
 rw[e,List.find?_append]
 unfold jX
 cases h2:marks2.find? (fun m=>m.isPrefixOf L) with
 | some m =>
  have hm:=List.mem_of_find?_eq_some h2
  obtain⟨a,b,rfl,_⟩:=qax m hm
  rw[if_pos (List.any_eq_true.2 ⟨_,hm,List.find?_some h2⟩)];rfl
 | none =>
  rw[if_neg (by rw[List.any_eq_true];rintro⟨m,hm,hp⟩;exact List.find?_eq_none.1 h2 m hm hp)]
  cases h1:marks1.find? (fun m=>m.isPrefixOf L) with
  | some m =>
   have hm:=List.mem_of_find?_eq_some h1
   obtain⟨a,rfl,_⟩:=qbV m hm
   rw[if_pos (List.any_eq_true.2 ⟨_,hm,List.find?_some h1⟩)];rfl
  | none =>
   rw[if_neg (by rw[List.any_eq_true];rintro⟨m,hm,hp⟩;exact List.find?_eq_none.1 h1 m hm hp)];rfl
theorem qnF {m L:BL}:m.isPrefixOf L=decide (m.length≤L.length∧L.take m.length=m):=by
 rw[Bool.eq_iff_iff,decide_eq_true_eq,List.isPrefixOf_iff_prefix]
 constructor
 · rintro⟨r,rfl⟩;simp
 · rintro⟨_,h⟩;exact⟨L.drop m.length,by conv=>lhs;lhs;rw[← h]
                                        exact List.take_append_drop _ _⟩
def qqz (i:Nat) (o:Option BL) (e:Int) (k b:Nat):Prop:=match o with
 | some m=>e=0∧k=6∧b=i+m.length
 | none=>e=4∧k=0∧b=0
theorem JR {w:World} {M:Nat} (h:w.heap[M]?=some (.cells (marksL.map fun l=>Value.string ⟨l.toArray⟩).toArray 9 (0,0))) (k:Nat) (m:BL) (hm:marksL[k]?=some m):w.cell? ⟨M,0+k,none⟩=some (.string (qn m)):=by
 rw[cell_of_row _ _ _ _ _ _ h,Nat.zero_add,List.getElem?_toArray,List.getElem?_map,hm];rfl
theorem qhF {L:BL} (h1:qp L=0) (h2:digN L=0) (h3:Qr L=none) (h4:L.head?≠some 59):qs eFv L=(match qaT L 0 with | some m=>(0,6,m.length) | none=>(4,0,0)):=by
 rw[jK h1,num_zero.2 h2,if_neg zxo,h3]
 simp only
 rw[if_neg h4,qjj]
 cases hb:qaT L 0 with
 | none=>rfl
 | some m =>
  have hm:m∈marksL:=by
   unfold qaT at hb;exact List.mem_of_mem_drop (List.mem_of_find?_eq_some hb)
  have hl:0<m.length:=by
   rcases qab m hm with h | h<;>omega
  simp only
  rw[if_pos hl]
theorem qgt (s:ByteArray) (i:Nat) (w:World) (hs:s.size≤999990) (hi:i<s.size) (hlet:atB jb s.data.toList i=false) (hdig:atB qf s.data.toList i=false) (h34:atB (· == 34) s.data.toList i=false) (h59:atB (· == 59) s.data.toList i=false) :
  Calls Tryz.prog 108 #[.string s,.int .i64 (i:Int)] w fun e w'=>QN s.data.toList i e∧Below w.heap.size w w':=by
 have hsz:s.data.toList.length=s.size:=rfl
 have HL0:=zxi (fun w=>JO s i w zxo zxo)
 have HD0:=zxi (fun w=>qaN s i w zxo zxo)
 rw[hlet] at HL0
 rw[hdig] at HD0
 have HS0:=zxi (NS.start w i)
 obtain⟨a0,a1,a2,a3,az,al⟩:=qq HS0.out.t
 obtain⟨b0,b1,b2,b3,bz,bl⟩:=qq HS0.out.r
 have hi2:(i:Int)<(s.size:Int):=by omega
 obtain⟨c,hc⟩:∃ c,s[i]=c:=⟨_,rfl⟩
 have hd:s.data.toList.drop i=c::s.data.toList.drop (i+1):=by rw[← hc];exact QB (Ql hi)
 have htk:qs eFv (s.data.toList.drop i)=(match qaT (s.data.toList.drop i) 0 with | some m=>(0,6,m.length) | none=>(4,0,0)):=by
  refine qhF ?_ (qan hdig) ?_ ?_
  · rw[qcO,hlet];rfl
  · rw[hd];refine qce (fun e=>?_)
    have:c=34:=UInt8.toNat_inj.1 e
    rw[qbS hi,hc,this] at h34;simp at h34
  · rw[hd];intro e
    have:c=59:=by simpa using e
    rw[qbS hi,hc,this] at h59;simp at h59
 have c34:c.toNat≠34:=fun e=>by
  have:c=34:=UInt8.toNat_inj.1 e
  rw[qbS hi,hc,this] at h34;simp at h34
 have c59:c.toNat≠59:=fun e=>by
  have:c=59:=UInt8.toNat_inj.1 e
  rw[qbS hi,hc,this] at h59;simp at h59
 have b34:((c.toNat:Int) == 34)=false:=beq_eq_false_iff_ne.2 zxo
 have b59:((c.toNat:Int) == 59)=false:=beq_eq_false_iff_ne.2 zxo
 obtain⟨L',hL'⟩:∃ L',s.data.toList.drop i=L':=⟨_,rfl⟩
 rw[hL'] at htk
 have hLl:L'.length=s.size-i:=by rw[← hL',List.length_drop];rfl
 have HTK:=zxi htk
 have HLL:=zxi hL'
 have HM:=zxi (fun w=>qsC w)
 have HSZ:=zxi hsz
 clear htk hd hL' hlet hdig h34 h59 hsz c34 c59
 go_enter Tryz.func108,Tryz.ntmps108
 go_wp2_with fail
 refine(HL0.out _).mono ?_
 rintro e w9 ⟨rfl,rfl⟩
 go_wp2_with fail
 refine(HD0.out _).mono ?_
 rintro e w9 ⟨rfl,rfl⟩
 go_wp2_with fail
 refine(HM.out _).mono ?_
 rintro e w3 ⟨rfl,rfl⟩
 obtain⟨W1,hW1⟩:∃ W1,((w.alloc (.cells #[.int .i64 0,.string ⟨#[]⟩,.int .i64 0,.int .i64 0] 83)).alloc (.cells #[.int .i64 0,.string ⟨#[]⟩,.int .i64 (i:Int),.int .i64 0] 83))=W1:=⟨_,rfl⟩
 rw[hW1] at HS0
 simp only[hW1]
 obtain⟨M,hM⟩:∃ M,W1.heap.size=M:=⟨_,rfl⟩
 have hMs:w.heap.size+2≤M:=by rw[← hM,← hW1,World.size_alloc,World.size_alloc];omega
 have HMC:=zxi (show(W1.alloc (.cells (marksL.map fun l=>Value.string ⟨l.toArray⟩).toArray 9)).heap[M]?=some (.cells (marksL.map fun l=>Value.string ⟨l.toArray⟩).toArray 9 (0,0)) by rw[← hM];exact heap_alloc_new W1 _)
 have HS1:=zxi (HS0.out.later ((Below.refl _ _).alloc zxn (.cells (marksL.map fun l=>Value.string ⟨l.toArray⟩).toArray 9)))
 rw[show(marks2++marks1)=marksL from rfl]
 generalize W1.alloc (.cells (marksL.map fun l=>Value.string ⟨l.toArray⟩).toArray 9)=W2 at *
 simp only[hM]
 clear hW1 HS0 a0 a1 a2 a3 az al b0 b1 b2 b3 bz bl
 go_wp2_with fail
 go_loopw [13,7] (fun iv ev wr=>∃ (k:Nat) (e:Int) (kd b:Nat),k≤23∧iv = .int .i64 ((k:Int)-1)∧ev = .int .i64 e∧qqz i (qaT L' k) e kd b∧NS w wr kd i b∧wr.heap[M]?=some (.cells (marksL.map fun l=>Value.string ⟨l.toArray⟩).toArray 9 (0,0))∧b≤s.size) (fun iv _ _=>(intOf iv+1).toNat)
 case atStart=>exact⟨23,4,0,0,Nat.le_refl _,by go_num,rfl,⟨rfl,rfl,rfl⟩,HS1.out,HMC.out,Nat.zero_le _⟩
 case round =>
  obtain⟨k,er,kd,b,hk,rfl,rfl,hbest,hns,hmc,hbl⟩:=hrel
  have HNS:=zxi hns
  have HMC2:=zxi hmc
  obtain⟨a0,a1,a2,a3,az,al⟩:=qq hns.t
  obtain⟨b0,b1,b2,b3,bz,bl⟩:=qq hns.r
  clear hns hmc HS1 HMC
  by_cases hk0:k=0
  · subst hk0
    have HB:=zxi hbest
    have hge:¬ (0:Int) ≤ -1:=by omega
    cases hb0:qaT L' 0 with
    | none =>
     rw[hb0] at hbest
     obtain⟨rfl,rfl,rfl⟩:=hbest
     have HV:=zxi (show qs eFv (s.data.toList.drop i)=(4,0,0) by rw[HLL.out,HTK.out,hb0])
     clear HB hb0
     go_wp2_with fail
     exact jN HNS.out.r zxn HNS.out.b (jU (k:=0) (t:=⟨#[]⟩) (a:=0) (b:=0) HV.out (fun h=>absurd h zxd)) rfl rfl
    | some m =>
     rw[hb0] at hbest
     obtain⟨rfl,rfl,rfl⟩:=hbest
     obtain⟨z,hz⟩:∃ z,i+m.length=z:=⟨_,rfl⟩
     rw[hz] at a3 hbl
     have HNS2:=zxi HNS.out
     rw[hz] at HNS2
     have HV:=zxi (show qs eFv (s.data.toList.drop i)=(0,6,m.length) by rw[HLL.out,HTK.out,hb0])
     have hiz:(i:Int)≤(z:Int):=by omega
     have hzl:(z:Int)≤(s.size:Int):=by omega
     obtain⟨T,hT⟩:∃ T,s.extract i z=T:=⟨_,rfl⟩
     have HTL:=zxi (show T.data.toList=(s.data.toList.drop i).take m.length by rw[← hT,← hz];exact Q2 s i m.length)
     have HZ:=zxi hz
     clear HB hb0 hz HNS
     go_wp2_with fail
     exact jN ((qu zxo).trans HNS2.out.r) zxn (HNS2.out.b.setCell (p:=⟨w.heap.size+1,1,none⟩) (by show w.heap.size≤w.heap.size+1;omega) _) (jU (k:=6) (t:=T) (a:=i) (b:=z) HV.out (fun _=>⟨rfl,HTL.out,rfl,HZ.out.symm⟩)) rfl rfl
  · obtain⟨j,rfl⟩:∃ j,k=j+1:=⟨k-1,by omega⟩
    have hj:((j+1:Nat):Int)-1=(j:Int):=by omega
    simp only[hj]
    obtain⟨m,hm⟩:∃ m,marksL[j]?=some m:=⟨_,List.getElem?_eq_getElem (show j<marksL.length from by rw[show marksL.length=23 from by decide];omega)⟩
    have hml:=qab m (List.mem_of_getElem? hm)
    have hcell:=JR HMC2.out j m hm
    rw[Nat.zero_add] at hcell
    have HBY:=zxi (fun h=>qlQ (L:=L') hm h)
    have HBN:=zxi (fun h=>qnt (L:=L') hm h)
    have hpre:=qnF (m:=m) (L:=L')
    obtain⟨X,hX⟩:∃ X,qn m=X:=⟨_,rfl⟩
    have HM1:=zxi hm
    have HXE:=zxi hX
    have hMT:M≠w.heap.size+1:=by omega
    have hXs:X.size=m.length:=by rw[← hX];rfl
    have hXl:X.data.toList=m:=by rw[← hX,qj]
    rw[hX] at hcell
    have hj0:(0:Int)≤(j:Int):=by omega
    have hj23:(j:Int)<23:=by omega
    have HBE:=zxi hbest
    obtain⟨z,hz⟩:∃ z,i+X.size=z:=⟨_,rfl⟩
    have hzi:(i:Int)+(X.size:Int)=(z:Int):=by omega
    have hiz:(i:Int)≤(z:Int):=by omega
    clear hm hX hbest hk0
    by_cases hle:z≤s.size
    · have hle2:(z:Int)≤(s.size:Int):=by omega
      have hled:decide ((z:Int)≤(s.size:Int))=true:=decide_eq_true hle2
      obtain⟨Y,hY⟩:∃ Y,s.extract i z=Y:=⟨_,rfl⟩
      have hYl:Y.data.toList=L'.take m.length:=by rw[← hY,← hz,← HLL.out,hXs];exact Q2 s i m.length
      by_cases he:L'.take m.length=m
      · have HP:=zxi (HBY.out (by rw[hpre,decide_eq_true ⟨by omega,he⟩]))
        have hq1:Y.toList=X.toList:=by rw[ByteArray.toList_eq,ByteArray.toList_eq,hYl,hXl,he]
        have hq2:(Y.toList == X.toList)=true:=by rw[hq1];simp
        have HXS:=zxi hXs
        have HZ:=zxi hz
        clear hpre hYl hXl he hXs hz
        go_wp2_with fail
        go_quiet (fail)
        generalize hWq:World.drewN _ _=wq
        have hbq:Below wr.heap.size wr wq:=by rw[← hWq];exact qQ (Below.refl _ _) _
        have HNQ:=zxi (HNS.out.later hbq)
        have HMQ:=zxi (qe HMC2.out hbq)
        obtain⟨q0,q1,q2,q3,qz,ql⟩:=qq HNQ.out.t
        have hcq:=JR HMQ.out j m HM1.out
        rw[Nat.zero_add,HXE.out] at hcq
        have hcq2:(wq.setCell ⟨w.heap.size+1,0,none⟩ (.int .i64 6)).cell? ⟨M,j,none⟩=some (.string X):=by
         rw[← hcq];unfold World.cell?;rw[qu hMT]
        clear hWq
        go_wp2_with fail
        go_roundw
        case rel=>exact⟨j,0,6,z,by omega,by go_num,rfl,by rw[HP.out];exact⟨rfl,rfl,by rw[← HXS.out];exact HZ.out.symm⟩,(HNQ.out.kind 6).to z,(qu zxo).trans ((qu zxo).trans HMQ.out),hle⟩
        case measure=>simp only[intOf];omega
      · have HP:=zxi (HBN.out (by rw[hpre];exact decide_eq_false (fun h=>he h.2)))
        have hq1:¬ Y.toList=X.toList:=by rw[ByteArray.toList_eq,ByteArray.toList_eq,hYl,hXl];exact he
        have hq2:(Y.toList == X.toList)=false:=by simpa using hq1
        have HE:=zxi he
        clear hpre hYl hXl he hXs hz
        go_wp2_with fail
        go_quiet (fail)
        generalize hWq:World.drewN _ _=wq
        have hbq:Below wr.heap.size wr wq:=by rw[← hWq];exact qQ (Below.refl _ _) _
        have HNQ:=zxi (HNS.out.later hbq)
        have HMQ:=zxi (qe HMC2.out hbq)
        obtain⟨q0,q1,q2,q3,qz,ql⟩:=qq HNQ.out.t
        have hcq:=JR HMQ.out j m HM1.out
        rw[Nat.zero_add,HXE.out] at hcq
        have hcq2:(wq.setCell ⟨w.heap.size+1,0,none⟩ (.int .i64 6)).cell? ⟨M,j,none⟩=some (.string X):=by
         rw[← hcq];unfold World.cell?;rw[qu hMT]
        exact qq1
    · have hzb:(z:Int)≤9223372036854775807:=by rcases hml with h | h<;>omega
      have hle2:¬ (z:Int)≤(s.size:Int):=by omega
      have hled:decide ((z:Int)≤(s.size:Int))=false:=decide_eq_false hle2
      have hled2:decide (z≤s.size)=false:=decide_eq_false hle
      have HP:=zxi (HBN.out (by rw[hpre];exact decide_eq_false (fun h=>by have:=h.1;omega)))
      clear hpre hXl hXs hz
      go_wp2_with fail
      go_quiet (fail)
      generalize hWq:World.drewN _ _=wq
      have hbq:Below wr.heap.size wr wq:=by rw[← hWq];exact qQ (Below.refl _ _) _
      have HNQ:=zxi (HNS.out.later hbq)
      have HMQ:=zxi (qe HMC2.out hbq)
      exact qq1
theorem qhv {s:ByteArray} {m:Nat} {c:UInt8} (h:m<s.size) (hc:s[m]=c) (h10:c.toNat≠10):qaP (s.data.toList.drop m)=qaP (s.data.toList.drop (m+1))+1:=by
 have hd:=QB (Ql h)
 rw[hd,hc]
 unfold qaP
 rw[List.takeWhile_cons,if_pos (decide_eq_true h10),List.length_cons]
theorem qse {s:ByteArray} {m:Nat} {c:UInt8} (h:m<s.size) (hc:s[m]=c) (h10:c.toNat=10):qaP (s.data.toList.drop m)=0:=by
 have hd:=QB (Ql h)
 rw[hd,hc]
 unfold qaP
 rw[List.takeWhile_cons,if_neg (by simp[h10])];rfl
theorem qnS {s:ByteArray} {m:Nat} (h:s.size≤m):qaP (s.data.toList.drop m)=0:=by
 rw[List.drop_of_length_le (show s.data.toList.length≤m from h)];rfl
theorem qvQ (s:ByteArray) (i:Nat) (w:World) (hs:s.size≤999990) (hi:i<s.size) :
  Calls Tryz.prog 108 #[.string s,.int .i64 (i:Int)] w fun e w'=>QN s.data.toList i e∧Below w.heap.size w w':=by
 cases h1:atB jb s.data.toList i with
 | true=>exact qgj s i w hs hi h1
 | false =>
  cases h2:atB qf s.data.toList i with
  | true=>exact qie s i w hs hi h1 h2
  | false =>
   cases h3:atB (· == 34) s.data.toList i with
   | true=>exact qiI s i w hs hi h1 h2 h3
   | false =>
    cases h4:atB (· == 59) s.data.toList i with
    | true=>exact qgu s i w hs hi h1 h2 h4
    | false=>exact qgt s i w hs hi h1 h2 h3 h4
def qal (w:World) (L:BL) (e:Ending) (w':World):Prop:=match ja L with
 | .ok l=>∃ v,e = .returned (.tuple #[v,.int .i64 0,.int .i64 0])∧Own tkC 4 83 w' w.heap.size v l
 | .error (p,er)=>e = .returned (.tuple #[.slice none 0 0,.int .i64 (p:Nat),.int .i64 er])
theorem qhN {last:Option Tk} {many:Nat} {acc:List Tk} (y:Tk) (h:qfs last many acc):qfs (some y) (many+1) (acc++[y]):=⟨by omega,acc,rfl⟩
theorem qia (acc:List Tk) (last:Option Tk):(jC acc last).length≤acc.length+1:=by
 unfold jC
 split
 · omega
 · split
   · simp
   · omega
theorem qtW (kd:Nat) (tx:ByteArray) (a b:Nat):(#[Value.int .i64 (kd:Int),.string tx,.int .i64 (a:Int),.int .i64 (b:Int)]:Array Value)=(tkC ⟨kd,tx.data.toList,a,b⟩).toArray:=by
 unfold tkC;simp only[jE]
theorem qf2 (s:ByteArray) (w:World) (hs:s.size≤65536) (hbr:qcb s.data.toList 0=none) :
  Calls Tryz.prog 90 #[.string s] w fun e w'=>qal w s.data.toList e w'∧Below w.heap.size w w':=by
 have hsz:s.data.toList.length=s.size:=rfl
 have HSZ:=zxi hsz
 have hbk:=qjM s w zxo
 rw[hbr] at hbk
 have HBK:=zxi (show Calls Tryz.prog 105 #[.string s] w fun e w'=>e = .returned (.int .i64 (-1))∧w'=w from hbk)
 obtain⟨i31',hi31,hz0,hz1,hz2⟩:=jg qmC
 have htv:ja s.data.toList=Jt eFv s.data.toList 0 [] none:=by
  exact qnm
 have hle:¬ (65536:Int)<(s.size:Int):=by omega
 have HTV:=zxi htv
 have HNX:=zxi (fun k (hk:k<s.size) w=>qvQ s k w zxo hk)
 have HIS:=zxi (fun k x (hk:k≤1000000) w=>ris s k x w zxo zxo)
 have HB0:=zxi (Below.refl w.heap.size w)
 clear hsz hbr hbk htv
 go_enter Tryz.func90,Tryz.ntmps90
 go_wp2_with fail
 refine HBK.out.mono ?_
 rintro e w1 ⟨rfl,rfl⟩
 go_wp2_with fail
 go_loopw [6,7,8] (fun lv mv iv wr=>∃ (k many:Nat) (acc:List Tk) (last:Option Tk),k≤s.size∧iv = .int .i64 k∧mv = .int .i64 many∧qfs last many acc∧Own tkC 4 83 wr w1.heap.size lv acc ∧
  ja s.data.toList=Jt eFv s.data.toList k acc last∧Below w1.heap.size w1 wr∧acc.length≤2*k∧many≤k) (fun _ _ iv _=>s.size-(intOf iv).toNat)
 case atStart=>exact⟨0,0,[],none,Nat.zero_le _,rfl,rfl,rfl,Own.nil_,HTV.out,HB0.out,Nat.zero_le _,Nat.le_refl _⟩
 case round =>
  obtain⟨k,many,acc,last,hk,rfl,rfl,hline,hown,hv,hbe,hal,hmk⟩:=hrel
  obtain⟨ao,ln,cp,rfl⟩:=Qv hown
  have HO:=zxi hown
  have HBE:=zxi hbe
  have HLN:=zxi hline
  clear HTV HB0 hown hbe hline
  by_cases hlt:k<s.size
  case neg =>
   have hlt2:¬ (k:Int)<(s.size:Int):=by omega
   have HV:=zxi (hv.trans (ql6 (List.drop_of_length_le (by rw[HSZ.out];omega))))
   have HP:=zxi (qws w1.heap.size _ acc last many wr HBE.out.size HO.out zxo HLN.out)
   clear hv
   go_wp2_with fail
   refine HP.out.mono ?_
   rintro e w2 ⟨v2,rfl,ho2,hb2⟩
   obtain⟨ao2,ln2,cp2,rfl⟩:=Qv ho2
   go_wp2_with fail
   go_ret3
   refine⟨?_,HBE.out.trans hb2⟩
   unfold qal
   rw[HV.out]
   exact⟨_,rfl,ho2⟩
  have hlt2:(k:Int)<(s.size:Int):=by omega
  obtain⟨c,hc⟩:∃ c,s[k]=c:=⟨_,rfl⟩
  have hd:=QB (Ql hlt)
  rw[hc] at hd
  rw[qji hd] at hv
  by_cases c10:c.toNat=10
  · have b10:((c.toNat:Int) == 10)=true:=beq_iff_eq.2 zxo
    rw[if_neg (by simp[qc2,c10]),if_pos c10] at hv
    have HV:=zxi hv
    have HP:=zxi (qws w1.heap.size _ acc last many wr HBE.out.size HO.out zxo HLN.out)
    have hcl:=qia acc last
    clear hv hd c10
    go_wp2_with fail
    refine HP.out.mono ?_
    rintro e w2 ⟨v2,rfl,ho2,hb2⟩
    obtain⟨ao2,ln2,cp2,rfl⟩:=Qv ho2
    have HO2:=zxi ho2
    have HB2:=zxi (HBE.out.trans hb2)
    clear ho2 hb2
    go_wp2_with fail
    go_roundw
    case rel=>exact⟨k+1,0,jC acc last,none,by omega,by go_num,rfl,rfl,HO2.out,HV.out,HB2.out,by omega,by omega⟩
    case measure=>simp only[intOf];omega
  have b10:((c.toNat:Int) == 10)=false:=beq_eq_false_iff_ne.2 zxo
  by_cases cb:qc2 c=true
  · rw[if_pos cb] at hv
    have HV:=zxi hv
    have hcb:c.toNat=32∨c.toNat=9∨c.toNat=13:=by simpa[qc2,or_assoc] using cb
    clear hv hd c10 cb
    rcases hcb with h | h | h
    · have f32:((c.toNat:Int) == 32)=true:=beq_iff_eq.2 zxo
      exact qnD
    · have f32:((c.toNat:Int) == 32)=false:=beq_eq_false_iff_ne.2 zxo
      have f9:((c.toNat:Int) == 9)=true:=beq_iff_eq.2 zxo
      exact qnD
    · have f32:((c.toNat:Int) == 32)=false:=beq_eq_false_iff_ne.2 zxo
      have f9:((c.toNat:Int) == 9)=false:=beq_eq_false_iff_ne.2 zxo
      have f13:((c.toNat:Int) == 13)=true:=beq_iff_eq.2 zxo
      exact qnD
  rw[if_neg cb,if_neg c10] at hv
  have hnb:c.toNat≠32∧c.toNat≠9∧c.toNat≠13:=by
   have:qc2 c=false:=by simpa using cb
   simpa[qc2,not_or,and_assoc] using this
  have f32:((c.toNat:Int) == 32)=false:=beq_eq_false_iff_ne.2 zxo
  have f9:((c.toNat:Int) == 9)=false:=beq_eq_false_iff_ne.2 zxo
  have f13:((c.toNat:Int) == 13)=false:=beq_eq_false_iff_ne.2 zxo
  clear cb c10 hnb
  have hat:atB (· == 47) s.data.toList (k+1)=decide ((s.data.toList.drop (k+1)).head?=some 47):=by
   rw[Bool.eq_iff_iff,is_some,decide_eq_true_eq,List.head?_drop]
  have HI:=zxi (HIS.out (k+1) 47 zxo wr)
  rw[hat] at HI
  clear hat
  by_cases hcm:c.toNat=47∧(s.data.toList.drop (k+1)).head?=some 47
  · rw[if_pos hcm] at hv
    rw[decide_eq_true hcm.2] at HI
    obtain⟨z,hz⟩:∃ z,k+qaP (s.data.toList.drop k)=z:=⟨_,rfl⟩
    have hcy:=qhv hlt hc zxo
    rw[show k+1+qaP (s.data.toList.drop (k+1))=z by omega] at hv
    have hle2:=qrb (s.data.toList.drop k)
    rw[List.length_drop,HSZ.out] at hle2
    have HV:=zxi hv
    have HZ:=zxi hz
    have hzl:z≤s.size:=by omega
    have hkz:k<z:=by omega
    have b47:((c.toNat:Int) == 47)=true:=beq_iff_eq.2 zxo
    clear hv hd hcm hcy hle2 hz
    go_wp2_with fail
    refine HI.out.mono ?_
    rintro e w2 ⟨rfl,rfl⟩
    go_wp2_with fail
    go_loopw [8] (fun iv wx=>∃ m:Nat,m≤z∧iv = .int .i64 m∧m+qaP (s.data.toList.drop m)=z∧k≤m∧wx=w2) (fun iv _=>z-(intOf iv).toNat)
    case atStart=>exact⟨k,by have:=HZ.out;omega,rfl,HZ.out,Nat.le_refl _,rfl⟩
    case round =>
     obtain⟨m,hm,rfl,hmz,hkm,rfl⟩:=hrel
     by_cases hml:m<s.size
     · have hml2:(m:Int)<(s.size:Int):=by omega
       obtain⟨x,hx⟩:∃ x,s[m]=x:=⟨_,rfl⟩
       by_cases x10:x.toNat=10
       · have g10:((x.toNat:Int) == 10)=true:=beq_iff_eq.2 zxo
         have g10':((x.toNat:Int) != 10)=false:=by simp only[bne,g10];rfl
         have hmm:=qse hml hx x10
         exact qq7
       · have g10:((x.toNat:Int) == 10)=false:=beq_eq_false_iff_ne.2 zxo
         have g10':((x.toNat:Int) != 10)=true:=by simp only[bne,g10];rfl
         have hmm:=qhv hml hx x10
         have HM:=zxi (show m+1+qaP (s.data.toList.drop (m+1))=z by omega)
         have hm1:m+1≤z:=by omega
         clear hmz hmm hm
         go_wp2_with fail
         go_roundw
         case rel=>exact⟨m+1,hm1,by go_num,HM.out,by omega,trivial⟩
         case measure=>simp only[intOf];omega
     · have hml2:¬ (m:Int)<(s.size:Int):=by omega
       have hmm:=qnS (s:=s) (m:=m) zxo
       exact qq7
  rw[if_neg hcm] at hv
  obtain⟨er,kd,n,htk⟩:∃ er kd n,qs eFv (c::s.data.toList.drop (k+1))=(er,kd,n):=⟨_,_,_,rfl⟩
  rw[htk] at hv
  have hpos:=qk0 (eF:=eFv) (L:=c::s.data.toList.drop (k+1)) zxs
  have hln:=qkX eFv (c::s.data.toList.drop (k+1))
  rw[htk] at hpos hln
  rw[← hd,List.length_drop,HSZ.out] at hln
  simp only at hpos hln hv
  have htk2:qs eFv (s.data.toList.drop k)=(er,kd,n):=by rw[hd];exact htk
  obtain⟨z,hz⟩:∃ z,k+n=z:=⟨_,rfl⟩
  have HNK:=zxi (show ∀ w,Calls Tryz.prog 108 #[.string s,.int .i64 (k:Int)] w fun e w'=>(∃ (k':Nat) (t:ByteArray) (a b:Nat),e = .returned (.tuple #[qcm k' t a b,.int .i64 er])∧(er=0→k'=kd∧t.data.toList=(s.data.toList.drop k).take n∧a=k∧b=z))∧Below w.heap.size w w' from fun w=>(HNX.out k hlt w).mono (fun e w' ⟨h1,h2⟩=>⟨by
   unfold QN at h1
   rw[htk2,hz] at h1
   exact h1,h2⟩))
  rw[hz] at hv
  rw[← hd] at hv
  have hzl:z≤s.size:=by omega
  have HZ:=zxi hz
  clear htk2 htk hz
  by_cases her:er=0
  · subst her
    have hn0:0<n:=hpos rfl
    have hkz:k<z:=by have:=HZ.out;omega
    rw[if_pos ⟨rfl,hn0⟩] at hv
    have HV:=zxi hv
    clear hv hpos
    by_cases h47:c.toNat=47
    · skip
      have h2:¬ (s.data.toList.drop (k+1)).head?=some 47:=fun e=>hcm ⟨h47,e⟩
      rw[decide_eq_false h2] at HI
      have b47:((c.toNat:Int) == 47)=true:=beq_iff_eq.2 zxo
      clear hcm h47 h2 hd
      go_wp2_with fail
      refine HI.out.mono ?_
      rintro e w2 ⟨rfl,rfl⟩
      exact qwY
    · skip
      have b47:((c.toNat:Int) == 47)=false:=beq_eq_false_iff_ne.2 zxo
      clear hcm h47 hd
      exact qwY
  · rw[if_neg (fun h=>her h.1)] at hv
    have HV:=zxi hv
    have hen:(er == 0)=false:=beq_eq_false_iff_ne.2 her
    have hen2:(er != 0)=true:=by simp only[bne,hen];rfl
    clear hv hpos
    by_cases h47:c.toNat=47
    · skip
      have h2:¬ (s.data.toList.drop (k+1)).head?=some 47:=fun e=>hcm ⟨h47,e⟩
      rw[decide_eq_false h2] at HI
      have b47:((c.toNat:Int) == 47)=true:=beq_iff_eq.2 zxo
      clear hcm h47 h2 hd
      go_wp2_with fail
      refine HI.out.mono ?_
      rintro e w2 ⟨rfl,rfl⟩
      exact qqQ
    · skip
      have b47:((c.toNat:Int) == 47)=false:=beq_eq_false_iff_ne.2 zxo
      clear hcm h47 hd
      exact qqQ
theorem qm2 (s:ByteArray) (w:World):Calls Tryz.prog 90 #[.string s] w fun e w'=>qal w s.data.toList e w'∧Below w.heap.size w w':=by
 by_cases hs:65536<s.size
 · have hgt:(65536:Int)<(s.size:Int):=by omega
   have HTV:=zxi (show ja s.data.toList = .error (65536,3) by unfold ja;rw[if_pos (show 65536<s.data.toList.length from hs)])
   go_enter Tryz.func90,Tryz.ntmps90
   exact qrr
 · cases hb:qcb s.data.toList 0 with
   | none=>exact qf2 s w zxo hb
   | some k =>
    have hbk:=qjM s w zxo
    rw[hb] at hbk
    have HBK:=zxi (show Calls Tryz.prog 105 #[.string s] w fun e w'=>e = .returned (.int .i64 (k:Int))∧w'=w from hbk)
    have hgt:¬ (65536:Int)<(s.size:Int):=by omega
    have hk0:(0:Int)≤(k:Int):=by omega
    have HTV:=zxi (show ja s.data.toList = .error (k,8) by unfold ja;rw[if_neg (show ¬ 65536<s.data.toList.length from hs),hb])
    clear hbk hb
    go_enter Tryz.func90,Tryz.ntmps90
    go_wp2_with fail
    refine HBK.out.mono ?_
    rintro e w1 ⟨rfl,rfl⟩
    exact qrr
end Go.Proofs.YtacdfjlncfidgaaGreatDoor
