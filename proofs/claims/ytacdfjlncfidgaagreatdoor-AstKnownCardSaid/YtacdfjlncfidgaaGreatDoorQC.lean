/- A part of what the claim leans on. -/
import Derived.Test.YtacdfjlncfidgaaGreatDoorQS
import Derived.Test.YtacdfjlncfidgaaGreatDoorQB
import Derived.Lib.ItoaLen
namespace Go.Proofs.YtacdfjlncfidgaaGreatDoor
open Go.RowKit
set_option linter.unusedVariables false
set_option linter.unusedSimpArgs false
set_option maxRecDepth 100000
set_option maxHeartbeats 6400000
def qM (acc:Nat) (l:List UInt8):Nat:=l.foldl (fun a c=>a*10+(c.toNat-48)) acc
theorem qhs (l:List UInt8):∀ acc,acc≤qM acc l:=by
 induction l with
 | nil=>intro acc;exact Nat.le_refl _
 | cons c r ih=>intro acc;have:=ih (acc*10+(c.toNat-48));simp only[qM,List.foldl_cons] at this ⊢;omega
theorem qg4 (M:Nat) (hM:M<18446744073709551616) (l:List UInt8):∀ acc,(∀ c∈l,qf c=true)→qM acc l≤M→Lib.parseUintM M acc l = .ok (qM acc l):=by
 induction l with
 | nil=>intro acc _ _;rfl
 | cons c r ih =>
  intro acc hd hv
  have h1:48≤c.toNat∧c.toNat≤57:=by have:=hd c (List.mem_cons_self ..);simpa[qf] using this
  have h2:=qhs r (acc*10+(c.toNat-48))
  have h3:qM acc (c::r)=qM (acc*10+(c.toNat-48)) r:=rfl
  rw[h3] at hv ⊢
  rw[Lib.parseUintM,if_pos h1,if_neg zxo,if_neg zxo]
  exact ih _ (fun c hc=>hd c (List.mem_cons_of_mem _ hc)) hv
theorem JV (l:List UInt8) (h:∀ c∈l,qf c=true):digN l=l.length:=qaj zxn (fun c hc=>h c (List.mem_of_mem_take hc)) (Or.inl rfl)
theorem qoI (s:ByteArray) (v:Int) (hs:s.size≤9223372036854775806) (hn:QG s.data.toList=true) (hp:Lib.parseIntB 64 s.data.toList = .ok v) (w:World) :
  Calls Tryz.prog 172 #[.string s] w fun e w'=>e = .returned (.tuple #[.int .i64 v,.int .i64 0])∧Below w.heap.size w w':=by
 have HN:=zxi (qA s w zxo)
 rw[hn] at HN
 have HP:=zxi (Tryz.strconv_ParseInt_10_at64_ok s hs v hp w)
 clear hn hp
 go_enter Tryz.func172,Tryz.ntmps172
 go_wp2_with (first | (go_at_call 182;refine HN.out.mono ?_;rintro e w' ⟨rfl,rfl⟩) | (go_at_call 183;refine HP.out.mono ?_;rintro e w1 ⟨rfl,hw1⟩))
 go_ret2
 refine⟨rfl,?_⟩
 rcases hw1 with rfl | ⟨t,rfl⟩
 · exact Below.refl _ _
 · exact Go.Joins.below_bytesWorld _ _ _ _ zxn
theorem qmX (s:ByteArray) (hs:s.size≤9223372036854775806) (hn:QG s.data.toList=false) (w:World) :
  Calls Tryz.prog 172 #[.string s] w fun e w'=>e = .returned (.tuple #[.int .i64 0,.int .i64 4])∧w=w':=by
 have HN:=zxi (qA s w zxo)
 rw[hn] at HN
 clear hn
 go_enter Tryz.func172,Tryz.ntmps172
 go_wp2_with (go_at_call 182;refine HN.out.mono ?_;rintro e w' ⟨rfl,rfl⟩)
 go_ret2
 exact⟨rfl,rfl⟩
theorem qga (d:Ieee.Datum):d.order d=if d.isNaN then none else some .eq:=by
 cases d with
 | nan s t=>rfl
 | infinity s=>cases s<;>rfl
 | number s m i =>
  simp only[Ieee.Datum.order,Ieee.Datum.isNaN,Std.ReflCmp.compare_self]
  rfl
theorem qkh (b:Nat):(Ieee.double.read b).isNaN=decide (b%9223372036854775808>9218868437227405312):=by
 have h1:Ieee.double.signWeight=9223372036854775808:=by decide
 have h2:Ieee.double.infRung=9218868437227405312:=by decide
 have h3:Ieee.double.binade=4503599627370496:=by decide
 unfold Ieee.Format.read
 simp only[h1,h2,h3]
 split
 · simp[Ieee.Datum.isNaN];omega
 · split
   · simp[Ieee.Datum.isNaN];omega
   · split
     · simp[Ieee.Datum.isNaN];omega
     · simp[Ieee.Datum.isNaN];omega
theorem qiv (b:Nat):qpJ b=decide (b%9223372036854775808>9218868437227405312):=by
 unfold qpJ Ieee.Format.order
 rw[qga,show FloatKind.f64.format=Ieee.double from rfl,qkh]
 by_cases h:b%9223372036854775808>9218868437227405312<;>simp[h]
def uc (x:Nat):List Value:=[.int .u64 x]
theorem Ji (x:Nat):(uc x).length=1:=rfl
theorem qbb (x:Nat):∀ u∈uc x,u.oneCell'=true:=by intro u hu;simp[uc] at hu;subst hu;rfl
theorem qec:(Tryz.prog.info? 87).map (fun i=>(i.zero,i.size,i.bytes))=some (some (.int .u64 0),1,8):=by kernel_rfl
theorem QT {i:Option TypeInfo} {z:Value} {s b:Nat} (h:i.map (fun i=>(i.zero,i.size,i.bytes))=some (some z,s,b)):∃ j,i=some j∧j.zero=some z∧j.size=s∧j.bytes=b:=by
 exact qsD
def qC (n:Nat):List Nat:=if n=0 then [] else n%65536::qC (n/65536)
termination_by n
theorem qS:qC 0=[]:=by rw[qC];rfl
theorem jS {n:Nat} (h:n≠0):qC n=n%65536::qC (n/65536):=by rw[qC,if_neg h]
theorem jn:∀ (k n:Nat),n<65536^k→(qC n).length≤k:=by
 intro k
 induction k with
 | zero=>intro n h;have:n=0:=by simpa using h
         subst this;rw[qS];simp
 | succ k ih =>
  intro n h
  by_cases h0:n=0
  · subst h0;rw[qS];simp
  · rw[jS h0]
    have:=ih (n/65536) (by rw[Nat.div_lt_iff_lt_mul zxo];rw[Nat.pow_succ] at h;exact h)
    simp;exact this
theorem qrL (n:Nat) (hn:n<18446744073709551616) (w:World) :
  Calls Tryz.prog 147 #[.int .u64 n] w fun e w'=>(∃ v,e = .returned v∧Own uc 1 87 w' w.heap.size v (qC n))∧Below w.heap.size w w':=by
 obtain⟨i30,hi30,hz0,hz1,hz2⟩:=QT qec
 have HN4:=zxi (jn 4 n (by simpa using hn))
 go_enter Tryz.func147,Tryz.ntmps147
 go_wp2_with fail
 go_loopw [0,3] (fun x v wr=>∃ (m:Nat) (l:List Nat),m≤n∧x = .int .u64 m∧Own uc 1 87 wr w.heap.size v l∧qC n=l++qC m∧Below w.heap.size w wr) (fun x _ _=>(intOf x).toNat)
 case atStart=>exact⟨n,[],Nat.le_refl _,rfl,Own.nil_,rfl,Below.refl _ _⟩
 case round =>
  obtain⟨m,l,hm,rfl,hown,hl,hb⟩:=hrel
  have HO:=zxi hown
  have HB:=zxi hb
  have hbs:=hb.size
  have HL:=zxi hl
  by_cases h0:m=0
  · subst h0
    have HE:=zxi (show qC n=l by rw[HL.out,qS,List.append_nil])
    clear hown hl hb
    go_wp2
    go_ret
    exact⟨⟨_,rfl,by rw[HE.out];exact HO.out⟩,HB.out⟩
  · have HP:=zxi (jS h0)
    have hlen:l.length≤4:=by
     have:=HN4.out
     rw[HL.out,List.length_append] at this;omega
    have HLN:=zxi hlen
    have hpos:(m:Int)>0:=by omega
    clear hown hl hb hlen
    go_wp2_with (at_builtin;go_must (refine qo (cs:=uc) rfl _ _ 135 rfl 87 i30 _ 8 Tryz.underlying135 hi30 hz0 hz1 hz2 rfl zxd Ji qbb _ w.heap.size _ u3 l (m%65536) _ (by simp[uc]) (by rfl) (by rfl) (by rfl) HO.out (by unfold maxLen;have:=HLN.out;omega) (by have:=HLN.out;omega) hbs ?_);intro v' w' hown' hg hat)
    go_roundw
    case rel =>
     refine⟨m/65536,l++[m%65536],by omega,by go_num,hown',by rw[HL.out,HP.out,List.append_assoc];rfl,qI HB.out HO.out hbs hg⟩
    case measure=>simp[intOf];omega
theorem Jq {w:World} {B:Nat} {A:Option Addr} {l:List Nat} {k x:Nat} (h:RowOf uc 1 w B A l) (hx:l[k]?=some x) :
  ∃ b off,A=some ⟨b,off,none⟩∧b<B∧w.cell? ⟨b,off+k,none⟩=some (.int .u64 x):=by
 have hlt:k<l.length:=by
  exact qj5
 obtain⟨b,off,e,hb,hc⟩:=h zxo
 have:=hc k x hx 0 _ rfl
 exact⟨b,off,e,hb,by simpa using this⟩
theorem qfX (A:Option Addr) (c:Nat) (l:List Nat) (w:World) (hl:l.length≤1000000) (hlc:l.length≤c) (hr:RowOf uc 1 w w.heap.size A l) :
  Calls Tryz.prog 161 #[.slice A l.length c] w fun e w'=>(∃ k,k≤l.length∧e = .returned (.slice A k c)∧(∀ x,l[k-1]?=some x→0<k→x≠0)∧(∀ i x,k≤i→l[i]?=some x→x=0))∧w=w':=by
 have HR:=zxi hr
 go_enter Tryz.func161,Tryz.ntmps161
 go_wp2_with fail
 go_loop [0] (fun v=>∃ (k:Nat),k≤l.length∧v = .slice A k c∧(∀ i x,k≤i→l[i]?=some x→x=0)) (fun v=>match v with | .slice _ k _=>k | _=>0)
 case atStart=>exact⟨l.length,Nat.le_refl _,rfl,fun i x hi hx=>by rw[List.getElem?_eq_none hi] at hx;cases hx⟩
 case round =>
  obtain⟨k,hk,rfl,hz⟩:=hrel
  have HZ:=zxi hz
  clear hz hr
  by_cases h0:k=0
  · subst h0
    go_wp2_with fail
    go_ret
    exact⟨⟨0,Nat.zero_le _,rfl,fun x _ h=>by omega,HZ.out⟩,rfl⟩
  · obtain⟨p,rfl⟩:∃ p,k=p+1:=⟨k-1,by omega⟩
    obtain⟨x,hx⟩:=jx (show p<l.length by omega)
    obtain⟨b,off,rfl,hbl,hc⟩:=Jq HR.out hx
    have HX:=zxi hx
    have e1:(((p+1:Nat):Int))-1=(p:Int):=by omega
    have e2:((p+1:Nat):Int)>0:=by omega
    clear hx
    by_cases hx0:x=0
    · have hx1:((x:Int) == 0)=true:=by simp[hx0]
      go_wp2_with fail
      refine⟨⟨p,by omega,rfl,fun i y hi hy=>?_⟩,by simp⟩
      rcases Nat.lt_or_ge p i with h | h
      · exact HZ.out i y h hy
      · obtain rfl:i=p:=by omega
        rw[HX.out] at hy;cases hy;exact hx0
    · have hx1:((x:Int) == 0)=false:=by simp[hx0]
      go_wp2_with fail
      go_ret
      exact⟨⟨p+1,hk,rfl,fun y hy _=>by rw[show p+1-1=p by omega,HX.out] at hy;cases hy;exact hx0,HZ.out⟩,rfl⟩
def vl:List Nat→Nat
 | []=>0
 | d::r=>d+65536*vl r
theorem Qy (n:Nat):vl (qC n)=n:=by
 induction n using Nat.strongRecOn with
 | _ n ih =>
  by_cases h:n=0
  · subst h;rw[qS];rfl
  · rw[jS h,vl,ih (n/65536) zxo];omega
theorem Jj (a b:List Nat):vl (a++b)=vl a+65536^a.length*vl b:=by
 induction a with
 | nil=>simp[vl]
 | cons x a ih =>
  rw[List.cons_append,vl,ih,vl,List.length_cons,Nat.pow_succ,Nat.mul_add,Nat.mul_comm (65536^a.length) 65536,Nat.mul_assoc]
  omega
theorem qeu (a:List Nat) (d:Nat):vl (a++[d])=vl a+65536^a.length*d:=by rw[Jj];simp[vl]
theorem qbE {l:List Nat} {k x:Nat} (hx:l[k]?=some x):vl (l.take (k+1))=vl (l.take k)+65536^k*x:=by
 have hlt:k<l.length:=by
  exact qj5
 rw[qdx hx,qeu,List.length_take,Nat.min_eq_left zxo]
theorem qct (l:List Nat) (h:∀ x∈l,x=0):vl l=0:=by
 induction l with
 | nil=>rfl
 | cons x l ih=>rw[vl,h x (List.mem_cons_self ..),ih (fun y hy=>h y (List.mem_cons_of_mem _ hy))]
theorem qmd {l:List Nat} {k:Nat} (h:∀ i x,k≤i→l[i]?=some x→x=0):vl (l.take k)=vl l:=by
 conv=>rhs;rw[← List.take_append_drop k l]
 rw[Jj,qct (l.drop k),Nat.mul_zero,Nat.add_zero]
 intro x hx
 obtain⟨i,hi⟩:=List.getElem?_of_mem hx
 rw[List.getElem?_drop] at hi
 exact h (k+i) x zxo hi
theorem qmg {l:List Nat} {k x:Nat} (d:Nat) (hx:l[k]?=some x):vl (l.set k d)+65536^k*x=vl l+65536^k*d:=by
 induction l generalizing k with
 | nil=>simp at hx
 | cons y l ih =>
  cases k with
  | zero=>simp at hx;subst hx;simp[vl];omega
  | succ k =>
   simp at hx
   have:=ih hx
   rw[List.set_cons_succ,vl,vl,Nat.pow_succ,Nat.mul_comm (65536^k) 65536,Nat.mul_assoc,Nat.mul_assoc]
   omega
theorem qjg (l:List Nat) (h1:∀ x∈l,x<65536) (h2:∀ x,l[l.length-1]?=some x→x≠0):qC (vl l)=l:=by
 induction l with
 | nil=>rw[vl,qS]
 | cons x l ih =>
  have hx:=h1 x (List.mem_cons_self ..)
  have h3:∀ y,l[l.length-1]?=some y→y≠0:=by
   intro y hy
   refine h2 y ?_
   cases l with
   | nil=>simp at hy
   | cons z l=>simpa using hy
  have hi:=ih (fun y hy=>h1 y (List.mem_cons_of_mem _ hy)) h3
  have hne:vl (x::l)≠0:=by
   intro e
   rw[vl] at e
   have e0:x=0:=by omega
   have e1:vl l=0:=by omega
   rw[e1,qS] at hi
   subst hi
   exact h2 x zxs e0
  rw[jS hne]
  have e1:vl (x::l)%65536=x:=by rw[vl];omega
  have e2:vl (x::l)/65536=vl l:=by rw[vl];omega
  rw[e1,e2,hi]
def uv (z:List Nat):Array Value:=(z.map fun(x:Nat)=>Value.int .u64 (x:Int)).toArray
def ArrU (w:World) (g:Nat) (z:List Nat):Prop:=w.heap[g]?=some (.cells (uv z) 87 (0,0))
theorem ArrU.at_ {w:World} {g k x:Nat} {z:List Nat} (h:ArrU w g z) (hx:z[k]?=some x):w.cell? ⟨g,k,none⟩=some (.int .u64 x):=by
 rw[cell_of_row _ _ _ _ _ _ h]
 simp[uv,List.getElem?_map,hx]
theorem qa8 {w:World} {g o:Nat} {c:Array Value} {e:TypeId} {fz:Nat×Nat} {v:Value} (h:w.heap[g]?=some (.cells c e fz)):(w.setCell ⟨g,o,none⟩ v).heap[g]?=some (.cells (c.setIfInBounds o v) e fz):=by
 simp only[World.setCell,Array.getElem?_modify]
 simp[h]
theorem ArrU.set {w:World} {g:Nat} {z:List Nat} (h:ArrU w g z) (k d:Nat):ArrU (w.setCell ⟨g,k,none⟩ (.int .u64 (d:Int))) g (z.set k d):=by
 unfold ArrU at *
 rw[qa8 h]
 simp[uv,List.map_set]
theorem ArrU.thaw {w:World} {g:Nat} {z:List Nat} (h:ArrU w g z) (k:Nat):w.frozen? ⟨g,k,none⟩=false:=by
 unfold ArrU at h
 unfold World.frozen?
 simp only[h]
 simp
theorem ArrU.drewN {w:World} {g:Nat} {z:List Nat} (h:ArrU w g z) (k:Nat):ArrU (w.drewN k) g z:=h
theorem ArrU.row {w:World} {g:Nat} {z:List Nat} (h:ArrU w g z):RowOf uc 1 w w.heap.size (some ⟨g,0,none⟩) z:=by
 intro _
 have hlt:g<w.heap.size:=(Array.getElem?_eq_some_iff.1 h).1
 refine⟨g,0,rfl,hlt,fun i x hx j v hv=>?_⟩
 have hj:j=0:=by
  rcases Nat.eq_zero_or_pos j with h | h
  · exact h
  · rw[List.getElem?_eq_none (by simp[uc];omega)] at hv;cases hv
 subst hj
 simp[uc] at hv
 subst hv
 have:=h.at_ hx
 simpa using this
theorem qaM (n:Nat) (hn:n≤2000) (k:Int) (hk:k=n) (W:World) :
  (Instr.makeSlice 135 (.int .i64 k) (.int .i64 k)).run Tryz.prog W = .ok (.slice (some ⟨W.heap.size,0,none⟩) n n) (W.alloc (.cells (uv (List.replicate n 0)) 87)):=by
 subst hk
 obtain⟨i,hi0,hz,hs,hb⟩:=QT qec
 have hr:=run_make (P:=Tryz.prog) W 135 87 i _ Tryz.underlying135 hi0 hz .i64 .i64 n n zxo zxo (by rw[hb];omega) zxo
 simp only[Int.toNat_natCast,hs,Nat.mul_one] at hr
 rw[hr]
 congr 3
 apply Array.toList_inj.1
 rw[show(Value.int .u64 0).cells=#[.int .u64 0] from rfl,toList_madeCells_one]
 simp[uv]
theorem Jw {w w':World} (h:Below w.heap.size w w'):Below w.heap.size w w'.drew:=⟨h.os,h.tape,h.output,h.size,h.block⟩
structure OInv (w wr:World) (N:Nat) (a b:List Nat) (i:Nat) (z:List Nat):Prop where
 arr:ArrU wr N z
 len:z.length=a.length+b.length
 dig:∀ x∈z,x<65536
 zero:∀ k x,i+b.length≤k→z[k]?=some x→x=0
 val:vl z=vl (a.take i)*vl b
 bel:Below w.heap.size w wr
structure IInv (w wr:World) (N:Nat) (a b:List Nat) (i ai c j:Nat) (z:List Nat):Prop where
 arr:ArrU wr N z
 len:z.length=a.length+b.length
 dig:∀ x∈z,x<65536
 carry:c<65536
 zero:∀ k x,i+b.length≤k→z[k]?=some x→x=0
 val:vl z+65536^(i+j)*c=vl (a.take i)*vl b+65536^i*(ai*vl (b.take j))
 bel:Below w.heap.size w wr
theorem OInv.begin_ {w wr:World} {N i ai:Nat} {a b z:List Nat} (h:OInv w wr N a b i z):IInv w wr N a b i ai 0 0 z where
 arr:=h.arr
 len:=h.len
 dig:=h.dig
 carry:=by decide
 zero:=h.zero
 val:=by rw[h.val];simp[vl]
 bel:=h.bel
theorem qhZ {z:List Nat} {k d:Nat} (h:∀ x∈z,x<65536) (hd:d<65536):∀ x∈z.set k d,x<65536:=by
 intro x hx
 rcases List.mem_or_eq_of_mem_set hx with h1 | h1
 · exact h x h1
 · subst h1;exact hd
theorem IInv.step {w wr wq:World} {N i ai c j zx bj v:Nat} {a b z:List Nat} (h:IInv w wr N a b i ai c j z) (hz:z[i+j]?=some zx) (hbj:b[j]?=some bj) (hlt:j<b.length)
  (hai:ai<65536) (hb:bj<65536) (hv:v=zx+ai*bj+c) (harr:ArrU wq N (z.set (i+j) (v%65536))) (hbel:Below w.heap.size w wq):IInv w wq N a b i ai (v/65536) (j+1) (z.set (i+j) (v%65536)) where
 arr:=harr
 len:=by rw[List.length_set];exact h.len
 dig:=qhZ h.dig (Nat.mod_lt _ zxd)
 carry:=by
  have h1:zx<65536:=h.dig zx (List.mem_of_getElem? hz)
  have h2:=h.carry
  have h3:ai*bj≤65535*65535:=Nat.mul_le_mul zxo zxo
  omega
 zero:=fun k x hk hx=>by
  rw[List.getElem?_set_ne zxo] at hx
  exact h.zero k x hk hx
 val:=by
  have e1:=qmg (v%65536) hz
  have e0:=h.val
  have et:=qbE hbj
  obtain⟨P,hP⟩:∃ P,65536^(i+j)=P:=⟨_,rfl⟩
  have e2:P*(v%65536)+65536*P*(v/65536)=P*v:=by
   rw[show 65536*P*(v/65536)=P*(65536*(v/65536)) by ac_rfl,← Nat.mul_add,Nat.mod_add_div]
  have e3:P*v=P*zx+P*(ai*bj)+P*c:=by rw[hv,Nat.mul_add,Nat.mul_add]
  have e4:65536^i*(ai*(vl (b.take j)+65536^j*bj))=65536^i*(ai*vl (b.take j))+P*(ai*bj):=by
   rw[← hP,Nat.pow_add,Nat.mul_add,Nat.mul_add];congr 1;ac_rfl
  rw[et,e4,show i+(j+1)=i+j+1 by omega,Nat.pow_succ,hP,Nat.mul_comm P 65536]
  rw[hP] at e0 e1
  generalize P*(v%65536)=x1 at *
  generalize 65536*P*(v/65536)=x2 at *
  generalize P*zx=x3 at *
  generalize P*(ai*bj)=x4 at *
  generalize P*c=x5 at *
  omega
 bel:=hbel
theorem IInv.finish {w wr wq:World} {N i ai c zx:Nat} {a b z:List Nat} (h:IInv w wr N a b i ai c b.length z) (ha:a[i]?=some ai) (hz:z[i+b.length]?=some zx)
  (harr:ArrU wq N (z.set (i+b.length) c)) (hbel:Below w.heap.size w wq):OInv w wq N a b (i+1) (z.set (i+b.length) c) where
 arr:=harr
 len:=by rw[List.length_set];exact h.len
 dig:=qhZ h.dig h.carry
 zero:=fun k x hk hx=>by
  rw[List.getElem?_set_ne zxo] at hx
  exact h.zero k x zxo hx
 val:=by
  have e1:=qmg c hz
  have hz0:zx=0:=h.zero _ zx zxn hz
  have e0:=h.val
  rw[List.take_length] at e0
  rw[hz0,Nat.mul_zero] at e1
  rw[qbE ha,Nat.add_mul,show 65536^i*ai*vl b=65536^i*(ai*vl b) by ac_rfl]
  omega
 bel:=hbel
def QH (n:Nat) (e:Ending) (w:World):Prop:=∃ A c,e = .returned (.slice A (qC n).length c)∧(qC n).length≤c∧RowOf uc 1 w w.heap.size A (qC n)
theorem qdq (A B:Option Addr) (ca cb:Nat) (a b:List Nat) (w:World) (ha:a.length≤1000) (hb:b.length≤1000) (hA:RowOf uc 1 w w.heap.size A a) (hB:RowOf uc 1 w w.heap.size B b) (ha2:∀ x∈a,x<65536) (hb2:∀ x∈b,x<65536) :
  Calls Tryz.prog 146 #[.slice A a.length ca,.slice B b.length cb] w fun e w'=>QH (vl a*vl b) e w'∧Below w.heap.size w w':=by
 have HA:=zxi hA
 have HB:=zxi hB
 have HA2:=zxi ha2
 have HB2:=zxi hb2
 have hmk:=qaM (a.length+b.length) zxo ((a.length:Int)+b.length) zxo
 clear hA hB ha2 hb2
 go_enter Tryz.func146,Tryz.ntmps146
 go_wp2_with fail
 go_loopw [6] (fun iv wr=>∃ (i:Nat) (z:List Nat),i≤a.length∧iv = .int .i64 i∧OInv w wr w.heap.size a b i z) (fun iv _=>a.length-(intOf iv).toNat)
 case atStart =>
  refine⟨0,List.replicate (a.length+b.length) 0,Nat.zero_le _,rfl,⟨heap_alloc_new w _,by simp,fun x hx=>by rw[List.mem_replicate] at hx;omega,fun k x _ hx=>?_,?_,(Below.refl _ _).alloc zxn _⟩⟩
  · have:=List.mem_of_getElem? hx;rw[List.mem_replicate] at this;exact this.2
  · rw[qct _ (fun x hx=>by rw[List.mem_replicate] at hx;exact hx.2)];simp[vl]
 case round =>
  obtain⟨i,z,hi,rfl,hO⟩:=hrel
  have HO:=zxi hO
  clear hO
  by_cases hlt:i<a.length
  · obtain⟨ai,hai⟩:=jx hlt
    have hai2:=HA2.out ai (List.mem_of_getElem? hai)
    have HAI:=zxi hai
    clear hai
    go_wp2_with fail
    go_loopw [7,8] (fun cv jv wr=>∃ (c j:Nat) (z:List Nat),j≤b.length∧cv = .int .u64 c∧jv = .int .i64 j∧IInv w wr w.heap.size a b i ai c j z) (fun _ jv _=>b.length-(intOf jv).toNat)
    case atStart=>exact⟨0,0,z,Nat.zero_le _,rfl,rfl,HO.out.begin_⟩
    case round =>
     obtain⟨c,j,y,hj,rfl,rfl,hI⟩:=hrel
     have HI:=zxi hI
     have hcy:=hI.carry
     have hln:=hI.len
     clear hI
     by_cases hjl:j<b.length
     · obtain⟨bj,hbj⟩:=jx hjl
       have hbj2:=HB2.out bj (List.mem_of_getElem? hbj)
       obtain⟨yx,hyx⟩:=jx (show i+j<y.length by omega)
       have hyx2:=HI.out.dig yx (List.mem_of_getElem? hyx)
       have hcell:=HI.out.arr.at_ hyx
       obtain⟨ba,oa,rfl,_,hca⟩:=Jq (HA.out.below HI.out.bel zxn) HAI.out
       obtain⟨bb,ob,rfl,_,hcb⟩:=Jq (HB.out.below HI.out.bel zxn) hbj
       have hmul:ai*bj≤65535*65535:=Nat.mul_le_mul zxo zxo
       obtain⟨p,hp⟩:∃ p,ai*bj=p:=⟨_,rfl⟩
       have hpc:(ai:Int)*(bj:Int)=(p:Int):=by rw[← hp];push_cast;rfl
       have HY:=zxi hyx
       have HBJ:=zxi hbj
       have HP:=zxi hp
       rw[hp] at hmul
       clear hyx hbj hp
       obtain⟨m,hm⟩:∃ m,i+j=m:=⟨_,rfl⟩
       have hm2:(i:Int)+(j:Int)=(m:Int):=by omega
       have hm3:IntKind.i64.wrap ((i:Int)+(j:Int))=(m:Int):=by rw[hm2];simp only[IntKind.wrap,IntKind.bits,IntKind.signed];simp;omega
       rw[hm] at hcell
       have g0:(0:Int)≤(m:Int):=by omega
       have g1:(m:Int)<((a.length+b.length:Nat):Int):=by omega
       have g2:(i:Int)<(a.length:Int):=by omega
       have g3:(j:Int)<(b.length:Int):=by omega
       have g4:(0:Int)≤(i:Int):=by omega
       have g5:(0:Int)≤(j:Int):=by omega
       have e1:IntKind.u64.wrap ((ai:Int)*(bj:Int))=(p:Int):=by rw[hpc];simp only[IntKind.wrap,IntKind.bits,IntKind.signed];simp;omega
       obtain⟨q,hq⟩:∃ q,yx+p=q:=⟨_,rfl⟩
       have hq1:(yx:Int)+(p:Int)=(q:Int):=by omega
       have e2:IntKind.u64.wrap ((yx:Int)+(p:Int))=(q:Int):=by rw[hq1];simp only[IntKind.wrap,IntKind.bits,IntKind.signed];simp;omega
       obtain⟨v,hv⟩:∃ v,q+c=v:=⟨_,rfl⟩
       have hv1:(q:Int)+(c:Int)=(v:Int):=by omega
       have e3:IntKind.u64.wrap ((q:Int)+(c:Int))=(v:Int):=by rw[hv1];simp only[IntKind.wrap,IntKind.bits,IntKind.signed];simp;omega
       obtain⟨r,hr⟩:∃ r,v%65536=r:=⟨_,rfl⟩
       have hr1:(v:Int)%65536=(r:Int):=by omega
       obtain⟨t,ht⟩:∃ t,v/65536=t:=⟨_,rfl⟩
       have ht1:(v:Int)/65536=(t:Int):=by omega
       have HQ:=zxi hq
       have HV:=zxi hv
       have HR:=zxi hr
       have HT:=zxi ht
       have HM:=zxi hm
       clear hq hv hr ht hm
       have hfz:wr.frozen? ⟨w.heap.size,m,none⟩=false:=HI.out.arr.thaw m
       go_wp2_with fail
       go_region
       go_wp2_with fail
       refine⟨⟨t,j+1,y.set (i+j) r,by omega,rfl,by go_num,?_⟩,by simp[intOf];omega⟩
       have hs:=IInv.step (v:=v) (wq:=(wr.setCell ⟨w.heap.size,m,none⟩ (.int .u64 (r:Int))).drew) HI.out HY.out HBJ.out hjl hai2 hbj2 (by rw[← HV.out,← HQ.out,← HP.out]) (by rw[HR.out,HM.out];exact HI.out.arr.set m r) (Jw (HI.out.bel.setCell (p:=⟨w.heap.size,m,none⟩) zxn _))
       rw[HT.out,HR.out] at hs
       exact hs
     · obtain rfl:j=b.length:=by omega
       obtain⟨yx,hyx⟩:=jx (show i+b.length<y.length by omega)
       obtain⟨m,hm⟩:∃ m,i+b.length=m:=⟨_,rfl⟩
       have hm2:(i:Int)+(b.length:Int)=(m:Int):=by omega
       have hcell:=HI.out.arr.at_ hyx
       rw[hm] at hcell
       have hfz:wr.frozen? ⟨w.heap.size,m,none⟩=false:=HI.out.arr.thaw m
       have g0:(0:Int)≤(m:Int):=by omega
       have g1:(m:Int)<((a.length+b.length:Nat):Int):=by omega
       have HY:=zxi hyx
       have HM:=zxi hm
       clear hyx hm
       go_wp2_with fail
       refine⟨⟨i+1,y.set (i+b.length) c,by omega,by go_num,?_⟩,by simp[intOf];omega⟩
       exact IInv.finish HI.out HAI.out HY.out (by rw[HM.out];exact HI.out.arr.set m c) (HI.out.bel.setCell (p:=⟨w.heap.size,m,none⟩) zxn _)
  · obtain rfl:i=a.length:=by omega
    have hln:=HO.out.len
    have HT:=zxi (qfX (some ⟨w.heap.size,0,none⟩) (a.length+b.length) z wr zxo zxo HO.out.arr.row)
    rw[hln] at HT
    clear hln
    go_wp2_with (go_at_call 161;refine HT.out.mono ?_;rintro e w' ⟨⟨k,hk,rfl,hk1,hk2⟩,rfl⟩)
    go_ret
    refine⟨⟨some ⟨w.heap.size,0,none⟩,a.length+b.length,?_⟩,HO.out.bel⟩
    have hval:vl (z.take k)=vl a*vl b:=by rw[qmd hk2,HO.out.val,List.take_length]
    have hlen2:(z.take k).length=k:=by rw[List.length_take,HO.out.len];omega
    have hdg:qC (vl a*vl b)=z.take k:=by
     rw[← hval]
     refine qjg _ (fun x hx=>HO.out.dig x (List.mem_of_mem_take hx)) fun x hx=>?_
     exact qqh
    rw[hdg,hlen2]
    exact⟨rfl,hk,HO.out.arr.row.take k⟩
theorem qgU {n:Nat} {e:Ending} {B:Nat} {w:World} (h:∃ v,e = .returned v∧Own uc 1 87 w B v (qC n)):QH n e w:=by
 obtain⟨v,rfl,h⟩:=h
 obtain⟨A,c,rfl,hr⟩:=h.row Ji
 refine⟨A,c,rfl,?_,hr⟩
 rcases h.2 with⟨h1,h2⟩ | ⟨g,cap,cur,hv,hB,hgg,hcap,hm,hsz,htake⟩
 · rw[h2];exact Nat.zero_le _
 · cases hv;omega
theorem jQ (n:Nat):∀ x∈qC n,x<65536:=by
 induction n using Nat.strongRecOn with
 | _ n ih =>
  by_cases h:n=0
  · subst h;rw[qS];intro x hx;cases hx
  · rw[jS h]
    intro x hx
    rcases List.mem_cons.1 hx with h1 | h1
    · subst h1;exact Nat.mod_lt _ zxd
    · exact ih (n/65536) zxo x h1
theorem qnl (l:List Nat) (h:∀ x∈l,x<65536):vl l<65536^l.length:=by
 induction l with
 | nil=>decide
 | cons x l ih =>
  have h1:=h x (List.mem_cons_self ..)
  have h2:=ih (fun y hy=>h y (List.mem_cons_of_mem _ hy))
  rw[vl,List.length_cons,Nat.pow_succ]
  omega
theorem qcg (n:Nat) (hn:n<18446744073709551616) (w:World):Calls Tryz.prog 147 #[.int .u64 n] w fun e w'=>QH n e w'∧Below w.heap.size w w' :=
 (qrL n hn w).mono fun e w' ⟨h,hb⟩=>⟨qgU h,hb⟩
theorem Je (n m:Nat) (A B:Option Addr) (ca cb:Nat) (w:World) (hn:(qC n).length≤1000) (hm:(qC m).length≤1000) (hA:RowOf uc 1 w w.heap.size A (qC n)) (hB:RowOf uc 1 w w.heap.size B (qC m)) :
  Calls Tryz.prog 146 #[.slice A (qC n).length ca,.slice B (qC m).length cb] w fun e w'=>QH (n*m) e w'∧Below w.heap.size w w':=by
 have:=qdq A B ca cb (qC n) (qC m) w hn hm hA hB (jQ n) (jQ m)
 rwa [Qy,Qy] at this
theorem qoO (w:World) (n:Nat) (w1:World) (A0:Option Addr) (l0:List Nat) (hn:n<18446744073709551616) (hb:Below w.heap.size w w1) (hr:RowOf uc 1 w1 w1.heap.size A0 l0) :
  Calls Tryz.prog 147 #[.int .u64 n] w1 fun e w'=>(QH n e w'∧RowOf uc 1 w' w'.heap.size A0 l0)∧Below w.heap.size w w' :=
 (qcg n hn w1).mono fun e w' ⟨h,hb'⟩=>⟨⟨h,hr.after zxn hb'⟩,hb.trans (hb'.mono hb.size)⟩
theorem qkA (n:Nat) (h:n≠0):65536^((qC n).length-1)≤n:=by
 induction n using Nat.strongRecOn with
 | _ n ih =>
  rw[jS h,List.length_cons,Nat.add_sub_cancel]
  by_cases h2:n/65536=0
  · rw[h2,qS];simp;omega
  · have:=ih (n/65536) zxo h2
    have hp:(qC (n/65536)).length=(qC (n/65536)).length-1+1:=by
     rw[jS h2,List.length_cons];omega
    rw[hp,Nat.pow_succ]
    have:=Nat.mul_le_mul_right 65536 this
    omega
theorem qaG (n:Nat):n<65536^(qC n).length:=by
 have:=qnl (qC n) (jQ n)
 rwa [Qy] at this
theorem qfL {n m:Nat} (h:(qC n).length<(qC m).length):n<m:=by
 have h1:=qaG n
 have hm:m≠0:=by intro e;subst e;rw[qS] at h;simp at h
 have h2:=qkA m hm
 have:65536^(qC n).length≤65536^((qC m).length-1):=Nat.pow_le_pow_right zxd zxo
 omega
theorem qfv {l r:List Nat} {k x y:Nat} (hx:l[k]?=some x) (hy:r[k]?=some y) (hxy:x<y) (hd:l.drop (k+1)=r.drop (k+1)) (hl:∀ x∈l,x<65536):vl l<vl r:=by
 have e1:=Jj (l.take k) (l.drop k)
 have e2:=Jj (r.take k) (r.drop k)
 rw[List.take_append_drop,J5 hx,vl] at e1
 rw[List.take_append_drop,J5 hy,vl,← hd] at e2
 have hkl:k<l.length:=by
  exact qj5
 have hkr:k<r.length:=by
  rcases Nat.lt_or_ge k r.length with h | h
  · exact h
  · rw[List.getElem?_eq_none h] at hy;cases hy
 have l1:(l.take k).length=k:=by rw[List.length_take];omega
 have l2:(r.take k).length=k:=by rw[List.length_take];omega
 rw[l1] at e1
 rw[l2] at e2
 have hlt:=qnl (l.take k) (fun x hx=>hl x (List.mem_of_mem_take hx))
 rw[l1] at hlt
 rw[e1,e2]
 have h3:65536^k*(x+65536*vl (l.drop (k+1)))+65536^k≤65536^k*(y+65536*vl (l.drop (k+1))):=by
  rw[← Nat.mul_succ];exact Nat.mul_le_mul_left _ zxo
 omega
def qdB (n m:Nat):Int:=if n<m then -1 else if n=m then 0 else 1
theorem qeS (n m:Nat) (A B:Option Addr) (ca cb:Nat) (w:World) (hn:(qC n).length≤1000) (hm:(qC m).length≤1000) (hA:RowOf uc 1 w w.heap.size A (qC n)) (hB:RowOf uc 1 w w.heap.size B (qC m)) :
  Calls Tryz.prog 164 #[.slice A (qC n).length ca,.slice B (qC m).length cb] w fun e w'=>e = .returned (.int .i64 (qdB n m))∧Below w.heap.size w w':=by
 have HA:=zxi hA
 have HB:=zxi hB
 have HDN:=zxi (jQ n)
 have HDM:=zxi (jQ m)
 have HVN:=zxi (Qy n)
 have HVM:=zxi (Qy m)
 have HL1:=zxi (@qfL n m)
 have HL2:=zxi (@qfL m n)
 have hne1:n<m→qdB n m = -1:=fun h=>by unfold qdB;rw[if_pos h]
 have hne2:m<n→qdB n m=1:=fun h=>by unfold qdB;rw[if_neg zxo,if_neg zxo]
 have hne3:n=m→qdB n m=0:=fun h=>by unfold qdB;rw[if_neg zxo,if_pos h]
 have C1:=zxi hne1
 have C2:=zxi hne2
 have C3:=zxi hne3
 clear hA hB hne1 hne2 hne3
 generalize hl:qC n=l at *
 generalize hr:qC m=r at *
 generalize qdB n m=V at *
 clear hl hr
 rcases Nat.lt_trichotomy l.length r.length with h | h | h
 · have hv:=C1.out (HL1.out h)
   subst hv
   have h1:¬ (l.length:Int)=r.length:=by omega
   have h2:(l.length:Int)<r.length:=by omega
   exact qrz
 · have h1:(l.length:Int)=r.length:=by omega
   have h3:((l.length:Int) != r.length)=false:=by simpa using h1
   have HLL:=zxi h
   clear h
   go_enter Tryz.func164,Tryz.ntmps164
   go_wp2_with fail
   go_loopw [5] (fun iv wr=>∃ (k:Nat),k≤l.length∧iv = .int .i64 ((k:Int)-1)∧l.drop k=r.drop k∧Below w.heap.size w wr) (fun iv _=>((intOf iv)+1).toNat)
   case atStart=>exact⟨l.length,Nat.le_refl _,by first | rfl | (rw[h1]),by rw[List.drop_length,HLL.out,List.drop_length],Below.refl _ _⟩
   case round =>
    obtain⟨k,hk,rfl,hd,hb⟩:=hrel
    have HDR:=zxi hd
    have HBE:=zxi hb
    clear hd hb
    by_cases h0:k=0
    · subst h0
      have hv:=C3.out (by have:=HDR.out;rw[List.drop_zero,List.drop_zero] at this;rw[← HVN.out,← HVM.out,this])
      subst hv
      go_wp2_with fail
      go_ret
      exact⟨rfl,HBE.out⟩
    · obtain⟨p,rfl⟩:∃ p,k=p+1:=⟨k-1,by omega⟩
      have e1:((p+1:Nat):Int)-1=(p:Int):=by omega
      rw[e1]
      obtain⟨x,hx⟩:=jx (show p<l.length by omega)
      obtain⟨y,hy⟩:=jx (show p<r.length by have:=HLL.out;omega)
      obtain⟨ba,oa,rfl,_,hca⟩:=Jq (HA.out.below HBE.out zxn) hx
      obtain⟨bb,ob,rfl,_,hcb⟩:=Jq (HB.out.below HBE.out zxn) hy
      have g0:(0:Int)≤(p:Int):=by omega
      have g1:(p:Int)<(l.length:Int):=by omega
      have g2:(p:Int)<(r.length:Int):=by omega
      have HX:=zxi hx
      have HY:=zxi hy
      clear hx hy
      rcases Nat.lt_trichotomy x y with hxy | hxy | hxy
      · have hv:=C1.out (by rw[← HVN.out,← HVM.out];exact qfv HX.out HY.out hxy HDR.out HDN.out)
        subst hv
        have d1:decide ((x:Int)<(y:Int))=true:=by simp;omega
        go_wp2_with fail
        go_region
        go_wp2_with fail
        go_ret
        exact⟨rfl,Jw HBE.out⟩
      · have HE:=zxi hxy
        have d1:decide ((x:Int)<(y:Int))=false:=by simp;omega
        have d2:decide ((x:Int)>(y:Int))=false:=by simp;omega
        go_wp2_with fail
        go_region
        go_wp2_with fail
        go_region
        go_wp2_with fail
        refine⟨⟨p,by omega,by first | rfl | go_num,by rw[J5 HX.out,J5 HY.out,HE.out,HDR.out],Jw (Jw HBE.out)⟩,by simp[intOf]<;>omega⟩
      · have hv:=C2.out (by rw[← HVN.out,← HVM.out];exact qfv HY.out HX.out hxy HDR.out.symm HDM.out)
        subst hv
        have d1:decide ((x:Int)<(y:Int))=false:=by simp;omega
        have d2:decide ((x:Int)>(y:Int))=true:=by simp;omega
        go_wp2_with fail
        go_region
        go_wp2_with fail
        go_region
        go_wp2_with fail
        go_ret
        exact⟨rfl,Jw (Jw HBE.out)⟩
 · have hv:=C2.out (HL2.out h)
   subst hv
   have h1:¬ (l.length:Int)=r.length:=by omega
   have h2:¬ (l.length:Int)<r.length:=by omega
   exact qrz
theorem qfb (v:Value) (l:List Nat) (n:Nat) (w:World) (hl:l.length≤1000000) (hd:∀ x∈l,x<65536) (hn:vl l=n) (B:Nat) (hown:Own uc 1 87 w B v l) :
  Calls Tryz.prog 161 #[v] w fun e w'=>QH n e w'∧w=w':=by
 have hcap:∃ A c,v = .slice A l.length c∧l.length≤c∧RowOf uc 1 w w.heap.size A l:=by
  obtain⟨A,c,rfl,hr⟩:=hown.row Ji
  refine⟨A,c,rfl,?_,hr⟩
  rcases hown.2 with⟨h1,h2⟩ | ⟨g,cap,cur,hv,hB,hgg,hcap,hm,hsz,htake⟩
  · rw[h2];exact Nat.zero_le _
  · cases hv;omega
 obtain⟨A,c,rfl,hlc,hr⟩:=hcap
 refine(qfX A c l w hl hlc hr).mono ?_
 rintro e w' ⟨⟨k,hk,rfl,hk1,hk2⟩,rfl⟩
 refine⟨⟨A,c,?_⟩,rfl⟩
 have hval:vl (l.take k)=n:=by rw[qmd hk2,hn]
 have hlen2:(l.take k).length=k:=by rw[List.length_take];omega
 have hdg:qC n=l.take k:=by
  rw[← hval]
  refine qjg _ (fun x hx=>hd x (List.mem_of_mem_take hx)) fun x hx=>?_
  exact qqh
 rw[hdg,hlen2]
 exact⟨rfl,by omega,hr.take k⟩
structure LInv (a b:List Nat) (i lent:Nat) (l:List Nat):Prop where
 len:l.length=i
 dig:∀ x∈l,x<65536
 lent1:lent≤1
 val:vl (a.take i)+65536^i*lent=vl (b.take i)+vl l
theorem QA {l:List Nat} {i:Nat} (h:l.length≤i):l.take i=l:=List.take_of_length_le h
theorem qe8 {l:List Nat} {d:Nat} (h:∀ x∈l,x<65536) (hd:d<65536):∀ x∈l++[d],x<65536:=by
 intro x hx
 rcases List.mem_append.1 hx with h1 | h1
 · exact h x h1
 · rw[List.mem_singleton] at h1;omega
theorem LInv.step {a b l:List Nat} {i lent ai y x:Nat} (h:LInv a b i lent l) (hai:a[i]?=some ai) (ha:ai<65536) (hy:y<65536)
  (hb:(b[i]?=some y)∨(b.length≤i∧y=0)) (hx:x+lent+y=ai+65536):LInv a b (i+1) (1-x/65536) (l++[x%65536]) where
 len:=by rw[List.length_append,h.len];rfl
 dig:=qe8 h.dig (Nat.mod_lt _ zxd)
 lent1:=by omega
 val:=by
  have e0:=h.val
  have h1:=h.lent1
  have eb:vl (b.take (i+1))=vl (b.take i)+65536^i*y:=by
   exact qug
  rw[qbE hai,eb,qeu,h.len,Nat.pow_succ]
  generalize 65536^i=P at *
  have hq:x/65536≤1:=by omega
  have c1:ai+65536*(1-x/65536)=lent+y+x%65536:=by omega
  have c2:P*(ai+65536*(1-x/65536))=P*(lent+y+x%65536):=by rw[c1]
  exact qpO
theorem qkp (n m:Nat) (A B:Option Addr) (ca cb:Nat) (w:World) (hn:(qC n).length≤1000) (hmn:m≤n) (hA:RowOf uc 1 w w.heap.size A (qC n)) (hB:RowOf uc 1 w w.heap.size B (qC m)) :
  Calls Tryz.prog 165 #[.slice A (qC n).length ca,.slice B (qC m).length cb] w fun e w'=>QH (n-m) e w'∧Below w.heap.size w w':=by
 obtain⟨i30,hi30,hz0,hz1,hz2⟩:=QT qec
 have HA:=zxi hA
 have HB:=zxi hB
 have HDN:=zxi (jQ n)
 have HDM:=zxi (jQ m)
 have HVN:=zxi (Qy n)
 have HVM:=zxi (Qy m)
 have hln:(qC m).length≤(qC n).length:=by
  rcases Nat.lt_or_ge (qC n).length (qC m).length with h | h
  · have:=qfL h;omega
  · exact h
 have HLM:=zxi hln
 have HMN:=zxi hmn
 have HN:=zxi hn
 clear hA hB hln hmn
 generalize qC n=a at *
 generalize qC m=b at *
 go_enter Tryz.func165,Tryz.ntmps165
 go_wp2_with fail
 go_loopw [5,6,7] (fun ov lv iv wr=>∃ (i lent:Nat) (l:List Nat),i≤a.length∧iv = .int .i64 i∧lv = .int .u64 lent∧LInv a b i lent l∧Own uc 1 87 wr w.heap.size ov l∧Below w.heap.size w wr) (fun _ _ iv _=>a.length-(intOf iv).toNat)
 case atStart=>exact⟨0,0,[],Nat.zero_le _,rfl,rfl,⟨rfl,fun x hx=>by(cases hx),by decide,by simp[vl]⟩,Own.nil_,Below.refl _ _⟩
 case round =>
  obtain⟨i,lent,l,hi,rfl,rfl,hI,hown,hb⟩:=hrel
  have HI:=zxi hI
  have HO:=zxi hown
  have HBE:=zxi hb
  have hl1:=hI.lent1
  have hbs:=hb.size
  clear hI hown hb
  by_cases hlt:i<a.length
  · obtain⟨ai,hai⟩:=jx hlt
    have hai2:=HDN.out ai (List.mem_of_getElem? hai)
    have HAI:=zxi hai
    obtain⟨ba,oa,rfl,_,hca⟩:=Jq (HA.out.below HBE.out zxn) hai
    clear hai
    have g1:(i:Int)<(a.length:Int):=by omega
    by_cases hlb:i<b.length
    · obtain⟨bi,hbi⟩:=jx hlb
      have hbi2:=HDM.out bi (List.mem_of_getElem? hbi)
      have HBI:=zxi hbi
      obtain⟨bb,ob,rfl,_,hcb⟩:=Jq (HB.out.below HBE.out zxn) hbi
      clear hbi
      have g2:(i:Int)<(b.length:Int):=by omega
      obtain⟨x,hx⟩:∃ x:Nat,x+lent+bi=ai+65536:=⟨ai+65536-lent-bi,by omega⟩
      have e1:(ai:Int)+65536-(lent:Int)-(bi:Int)=(x:Int):=by omega
      have e0:IntKind.u64.wrap ((ai:Int)+65536-(lent:Int)-(bi:Int))=(x:Int):=by rw[e1];simp only[IntKind.wrap,IntKind.bits,IntKind.signed];simp;omega
      have HX:=zxi hx
      have hlen2:l.length≤1000:=by have:=HI.out.len;have:=HN.out;omega
      have HLN:=zxi hlen2
      clear hx hlen2
      go_wp2_with (at_builtin;go_must (refine qo (cs:=uc) rfl _ _ 135 rfl 87 i30 _ 8 Tryz.underlying135 hi30 hz0 hz1 hz2 rfl zxd Ji qbb _ w.heap.size _ u5 l (x%65536) _ (by simp[uc]) (by rfl) (by rfl) (by rfl) HO.out (by unfold maxLen;have:=HLN.out;omega) (by have:=HLN.out;omega) hbs ?_);intro v' w' hown' hg hat)
      go_roundw
      case rel=>exact⟨i+1,1-x/65536,l++[x%65536],by omega,by go_num,by go_num,HI.out.step HAI.out hai2 hbi2 (.inl HBI.out) HX.out,hown',qI HBE.out HO.out hbs hg⟩
      case measure=>simp[intOf];omega
    · have g2:¬ (i:Int)<(b.length:Int):=by omega
      obtain⟨x,hx⟩:∃ x:Nat,x+lent+0=ai+65536:=⟨ai+65536-lent,by omega⟩
      have e1:(ai:Int)+65536-(lent:Int)=(x:Int):=by omega
      have HX:=zxi hx
      have hlen2:l.length≤1000:=by have:=HI.out.len;have:=HN.out;omega
      have HLN:=zxi hlen2
      clear hx hlen2
      go_wp2_with (at_builtin;go_must (refine qo (cs:=uc) rfl _ _ 135 rfl 87 i30 _ 8 Tryz.underlying135 hi30 hz0 hz1 hz2 rfl zxd Ji qbb _ w.heap.size _ u5 l (x%65536) _ (by simp[uc]) (by rfl) (by rfl) (by rfl) HO.out (by unfold maxLen;have:=HLN.out;omega) (by have:=HLN.out;omega) hbs ?_);intro v' w' hown' hg hat)
      go_roundw
      case rel=>exact⟨i+1,1-x/65536,l++[x%65536],by omega,by go_num,by go_num,HI.out.step HAI.out hai2 zxd (.inr ⟨by omega,rfl⟩) HX.out,hown',qI HBE.out HO.out hbs hg⟩
      case measure=>simp[intOf];omega
  · obtain rfl:i=a.length:=by omega
    have hval:vl l=n-m:=by
     have e0:=HI.out.val
     rw[List.take_length,QA HLM.out,HVN.out,HVM.out] at e0
     have h1:=qnl l HI.out.dig
     rw[HI.out.len] at h1
     have h2:=HMN.out
     rcases (show lent=0∨lent=1 by omega) with h3 | h3
     · subst h3;omega
     · subst h3;omega
    have HT:=zxi (qfb u5 l (n-m) wr (by have:=HI.out.len;have:=HN.out;omega) HI.out.dig hval w.heap.size HO.out)
    exact qp6
structure SInv (a b:List Nat) (i c:Nat) (l:List Nat):Prop where
 len:l.length=i
 dig:∀ x∈l,x<65536
 carry:c≤1
 val:vl (a.take i)+vl (b.take i)=vl l+65536^i*c
theorem SInv.step {a b l:List Nat} {i c x y z:Nat} (h:SInv a b i c l) (hx:x<65536) (hy:y<65536)
  (ha:(a[i]?=some x)∨(a.length≤i∧x=0)) (hb:(b[i]?=some y)∨(b.length≤i∧y=0)) (hz:z=c+x+y):SInv a b (i+1) (z/65536) (l++[z%65536]) where
 len:=by rw[List.length_append,h.len];rfl
 dig:=qe8 h.dig (Nat.mod_lt _ zxd)
 carry:=by have:=h.carry;omega
 val:=by
  have e0:=h.val
  have ea:vl (a.take (i+1))=vl (a.take i)+65536^i*x:=by
   rcases ha with ha | ⟨ha,rfl⟩
   · exact qbE ha
   · rw[QA zxo,QA ha];simp
  have eb:vl (b.take (i+1))=vl (b.take i)+65536^i*y:=by
   exact qug
  rw[ea,eb,qeu,h.len,Nat.pow_succ]
  generalize 65536^i=P at *
  have c1:z%65536+65536*(z/65536)=c+x+y:=by omega
  have c2:P*(z%65536+65536*(z/65536))=P*(c+x+y):=by rw[c1]
  exact qpO
theorem qot (n m:Nat) (A B:Option Addr) (ca cb:Nat) (w:World) (hn:(qC n).length≤1000) (hm:(qC m).length≤1000) (hA:RowOf uc 1 w w.heap.size A (qC n)) (hB:RowOf uc 1 w w.heap.size B (qC m)) :
  Calls Tryz.prog 145 #[.slice A (qC n).length ca,.slice B (qC m).length cb] w fun e w'=>QH (n+m) e w'∧Below w.heap.size w w':=by
 obtain⟨i30,hi30,hz0,hz1,hz2⟩:=QT qec
 have HA:=zxi hA
 have HB:=zxi hB
 have HDN:=zxi (jQ n)
 have HDM:=zxi (jQ m)
 have HVN:=zxi (Qy n)
 have HVM:=zxi (Qy m)
 have HN:=zxi hn
 have HM:=zxi hm
 clear hA hB
 generalize qC n=a at *
 generalize qC m=b at *
 go_enter Tryz.func145,Tryz.ntmps145
 go_wp2_with fail
 go_loopw [5,6,7] (fun ov lv iv wr=>∃ (i c:Nat) (l:List Nat),(i≤a.length∨i≤b.length∨(c=0∧i≤max a.length b.length+1))∧i≤1001∧iv = .int .i64 i∧lv = .int .u64 c∧SInv a b i c l∧Own uc 1 87 wr w.heap.size ov l∧Below w.heap.size w wr) (fun _ _ iv _=>1002-(intOf iv).toNat)
 case atStart=>exact⟨0,0,[],.inl (Nat.zero_le _),by omega,rfl,rfl,⟨rfl,fun x hx=>by(cases hx),by decide,by simp[vl]⟩,Own.nil_,Below.refl _ _⟩
 case round =>
  obtain⟨i,c,l,hi,hi2,rfl,rfl,hI,hown,hb⟩:=hrel
  have HI:=zxi hI
  have HO:=zxi hown
  have HBE:=zxi hb
  have HII:=zxi hi
  have hl1:=hI.carry
  have hbs:=hb.size
  have hlen2:l.length≤1001:=by have:=hI.len;omega
  have HLN:=zxi hlen2
  clear hI hown hb hi hlen2
  have hda:∃ x,x<65536∧((a[i]?=some x)∨(a.length≤i∧x=0)):=by
   rcases Nat.lt_or_ge i a.length with h | h
   · obtain⟨x,hx⟩:=jx h
     exact⟨x,HDN.out x (List.mem_of_getElem? hx),.inl hx⟩
   · exact⟨0,by decide,.inr ⟨h,rfl⟩⟩
  have hdb:∃ x,x<65536∧((b[i]?=some x)∨(b.length≤i∧x=0)):=by
   rcases Nat.lt_or_ge i b.length with h | h
   · obtain⟨x,hx⟩:=jx h
     exact⟨x,HDM.out x (List.mem_of_getElem? hx),.inl hx⟩
   · exact⟨0,by decide,.inr ⟨h,rfl⟩⟩
  obtain⟨x,hx65,hdx⟩:=hda
  obtain⟨y,hy65,hdy⟩:=hdb
  have HDX:=zxi hdx
  have HDY:=zxi hdy
  by_cases hla:i<a.length
  · have hai:a[i]?=some x:=by rcases hdx with h | ⟨h,_⟩<;>first | exact h | omega
    obtain⟨ba,oa,rfl,_,hca⟩:=Jq (HA.out.below HBE.out zxn) hai
    have g1:(i:Int)<(a.length:Int):=by omega
    clear hdx hai
    by_cases hlb:i<b.length
    · have hbi:b[i]?=some y:=by rcases hdy with h | ⟨h,_⟩<;>first | exact h | omega
      obtain⟨bb,ob,rfl,_,hcb⟩:=Jq (HB.out.below HBE.out zxn) hbi
      have g2:(i:Int)<(b.length:Int):=by omega
      clear hdy hbi
      obtain⟨z,hz⟩:∃ z:Nat,z=c+x+y:=⟨_,rfl⟩
      have HZ:=zxi hz
      have e1:(c:Int)+(x:Int)+(y:Int)=(z:Int):=by omega
      exact qqT
    · obtain rfl:y=0:=by
       exact qs0
      have g2:¬ (i:Int)<(b.length:Int):=by omega
      clear hdy
      obtain⟨z,hz⟩:∃ z:Nat,z=c+x+0:=⟨_,rfl⟩
      have HZ:=zxi hz
      have e1:(c:Int)+(x:Int)=(z:Int):=by omega
      exact qqT
  · obtain rfl:x=0:=by
     rcases hdx with h | ⟨_,h⟩
     · exact qvC
     · exact h
    have g1:¬ (i:Int)<(a.length:Int):=by omega
    clear hdx
    by_cases hlb:i<b.length
    · have hbi:b[i]?=some y:=by rcases hdy with h | ⟨h,_⟩<;>first | exact h | omega
      obtain⟨bb,ob,rfl,_,hcb⟩:=Jq (HB.out.below HBE.out zxn) hbi
      have g2:(i:Int)<(b.length:Int):=by omega
      clear hdy hbi
      obtain⟨z,hz⟩:∃ z:Nat,z=c+0+y:=⟨_,rfl⟩
      have HZ:=zxi hz
      have e1:(c:Int)+(y:Int)=(z:Int):=by omega
      clear hz
      have hz65:z≤200000:=by have:=HZ.out;omega
      go_wp2_with (at_builtin;go_must (refine qo (cs:=uc) rfl _ _ 135 rfl 87 i30 _ 8 Tryz.underlying135 hi30 hz0 hz1 hz2 rfl zxd Ji qbb _ w.heap.size _ u5 l (z%65536) _ (by simp[uc]) (by rfl) (by rfl) (by rfl) HO.out (by unfold maxLen;have:=HLN.out;omega) (by have:=HLN.out;omega) hbs ?_);intro v' w' hown' hg hat)
      go_roundw
      case rel=>exact⟨i+1,z/65536,l++[z%65536],.inr (.inl zxo),by have:=HM.out;omega,by go_num,by go_num,HI.out.step hx65 hy65 HDX.out HDY.out HZ.out,hown',qI HBE.out HO.out hbs hg⟩
      case measure=>simp[intOf];omega
    · obtain rfl:y=0:=by
       exact qs0
      have g2:¬ (i:Int)<(b.length:Int):=by omega
      clear hdy
      by_cases hc:c=0
      · subst hc
        have hval:vl l=n+m:=by
         have e0:=HI.out.val
         rw[QA zxo,QA zxo,HVN.out,HVM.out] at e0
         omega
        have HT:=zxi (qfb u5 l (n+m) wr (by have:=HLN.out;omega) HI.out.dig hval w.heap.size HO.out)
        exact qp6
      · obtain rfl:c=1:=by omega
        have hi3:i≤1000:=by have h1:=HII.out;have h2:=HN.out;have h3:=HM.out;omega
        go_wp2_with (at_builtin;go_must (refine qo (cs:=uc) rfl _ _ 135 rfl 87 i30 _ 8 Tryz.underlying135 hi30 hz0 hz1 hz2 rfl zxd Ji qbb _ w.heap.size _ u5 l 1 _ (by simp[uc]) (by rfl) (by rfl) (by rfl) HO.out (by unfold maxLen;have:=HLN.out;omega) (by have:=HLN.out;omega) hbs ?_);intro v' w' hown' hg hat)
        go_roundw
        case rel=>exact⟨i+1,0,l++[1],.inr (.inr ⟨rfl,by have h1:=HII.out;omega⟩),by omega,by go_num,by first | rfl | go_num,HI.out.step hx65 hy65 HDX.out HDY.out rfl,hown',qI HBE.out HO.out hbs hg⟩
        case measure=>simp[intOf];omega
section
variable {P:Program} {α:Type} {cs:α→List Value} {sz:Nat}
theorem RowOf.flat (hs:∀ x,(cs x).length=sz) (hsz:0<sz) {w:World} {B:Nat} {A:Option Addr} {l:List α} (h:RowOf cs sz w B A l) {q:Nat} {u:Value} (hq:(l.flatMap cs)[q]?=some u) :
  ∃ b off,A=some ⟨b,off,none⟩∧b<B∧w.cell? ⟨b,off+q,none⟩=some u:=by
 have hlen:q<l.length*sz:=by
  rw[← qaW hs l]
  rcases Nat.lt_or_ge q (l.flatMap cs).length with h' | h'
  · exact h'
  · rw[List.getElem?_eq_none h'] at hq;cases hq
 have hi:q/sz<l.length:=by rw[Nat.div_lt_iff_lt_mul hsz];exact hlen
 have hj:q%sz<sz:=Nat.mod_lt _ hsz
 obtain⟨x,hx⟩:=jx hi
 obtain⟨b,off,hA,hB,hc⟩:=h (Nat.lt_of_le_of_lt (Nat.zero_le _) hi)
 have hv:(cs x)[q%sz]?=some ((cs x)[q%sz]'(by rw[hs];exact hj)):=List.getElem?_eq_getElem _
 have hf:=qcV hs l (q/sz) x hx (q%sz) _ hv
 have he:q/sz*sz+q%sz=q:=by rw[Nat.mul_comm];exact Nat.div_add_mod q sz
 rw[he,hq] at hf
 have:=hc (q/sz) x hx (q%sz) _ hv
 rw[Nat.add_assoc,he,← hf] at this
 exact⟨b,off,hA,hB,this⟩
theorem qkI (hone1:∀ y,∀ u∈cs y,u.oneCell'=true) (l:List α):∀ u∈l.flatMap cs,u.oneCell'=true:=by
 intro u hu
 obtain⟨x,_,hx⟩:=List.mem_flatMap.1 hu
 exact hone1 x u hx
theorem qaA {ops:Array Oper} {rest:List Oper} {o:Oper} {a:Act} {Q:Exit→Act→World→Prop} (hgd:o.guard=none) (s x:Operand) (t:TypeId)
  (ho:o.op = .call { callee:=.builtin .append,args:=#[s,x],argTypes:=#[t,t] })
  (e:TypeId) (i:TypeInfo) (z:Value) (bytes:Nat) (ht:P.underlying t=some (.slice e)) (hi:P.info? e=some i) (hz:i.zero=some z)
  (hsize:i.size=sz) (hby:i.bytes=bytes) (hzs:z.cells.size=sz) (hsz:0<sz) (hone:∀ y,(cs y).length=sz) (hone1:∀ y,∀ u∈cs y,u.oneCell'=true)
  (W:World) (B B1:Nat) (v:Value) (l l1:List α) (A1:Addr) (m c1:Nat) (hs:a.eval s=v) (hx:a.eval x = .slice (some A1) m c1) (hm:m=l1.length)
  (hown:Own cs sz e W B v l) (hr:RowOf cs sz W B1 (some A1) l1) (h63:l.length+l1.length≤maxLen) (hbytes:(l.length+l1.length)*bytes≤140737488355328) (hbase:B≤W.heap.size)
  (h:∀ v' w',Own cs sz e w' B v' (l++l1)→W.grownBy w' v.ownBlock→(v'.ownBlock=v.ownBlock∨v'.ownBlock=some W.heap.size)→wpList P ops Q rest (a.put o.dst v') w') :
  wpList P ops Q (o::rest) a W:=by
 subst hm
 refine wpList_append_own_at (w:=W) hgd s x t ho B e i z sz bytes ht hi hz hsize hby hzs hsz v l.length (l.flatMap cs) hs hown A1 l1.length c1 (l1.flatMap cs) hx (qaW hone l1)
  (fun j u hj=>?_) (qkI hone1 l1) h63 hbytes hbase fun v' w' hown' hg _ hat=>h v' w' ?_ hg hat
 · obtain⟨b,off,hA,_,hc⟩:=hr.flat hone hsz hj
   injection hA with hA
   subst hA
   rw[Addr.add_lit]
   exact hc
 · unfold Own
   rw[List.length_append,List.flatMap_append]
   exact hown'
end
theorem qok (z:List Nat):z.flatMap uc=z.map fun(x:Nat)=>Value.int .u64 (x:Int):=by
 induction z with
 | nil=>rfl
 | cons x z ih=>rw[List.flatMap_cons,ih];rfl
theorem qfB {W:World} {z:List Nat} {g n:Nat} (hg:g=W.heap.size) (hn:n=z.length) (hz:n≤1000000):Own uc 1 87 (W.alloc (.cells (uv z) 87)) g (.slice (some ⟨g,0,none⟩) n n) z:=by
 subst hg hn
 refine⟨qaW Ji z,.inr ⟨W.heap.size,z.length,uv z,rfl,Nat.le_refl _,heap_alloc_new W _,Nat.le_refl _,by unfold maxLen;omega,by simp[uv],?_⟩⟩
 rw[qok]
 simp only[uv]
 rw[Nat.mul_one,List.take_of_length_le zxs]
theorem qkU (k:Nat) (l:List Nat):vl (List.replicate k 0++l)=65536^k*vl l:=by
 rw[Jj,qct _ (fun x hx=>by rw[List.mem_replicate] at hx;exact hx.2),List.length_replicate];omega
theorem qnJ (k:Int) (A:Option Addr) (c:Nat) (w:World):Calls Tryz.prog 166 #[.slice A 0 c,.int .i64 k] w fun e w'=>QH 0 e w'∧Below w.heap.size w w':=by
 go_enter Tryz.func166,Tryz.ntmps166
 go_wp2_with fail
 go_ret
 exact⟨⟨none,0,by rw[qS];rfl,by rw[qS];exact Nat.le_refl _,by rw[qS];exact RowOf.nil_⟩,Below.refl _ _⟩
theorem qsn (n k:Nat) (A:Option Addr) (c:Nat) (w:World) (hn0:n≠0) (hnk:(qC n).length+k/16≤900) (hA:RowOf uc 1 w w.heap.size A (qC n)) :
  Calls Tryz.prog 166 #[.slice A (qC n).length c,.int .i64 k] w fun e w'=>QH (n*2^k) e w'∧Below w.heap.size w w':=by
 obtain⟨i30,hi30,hz0,hz1,hz2⟩:=QT qec
 have hn:(qC n).length≤900:=by omega
 have hk:k≤16000:=by omega
 have HNK:=zxi hnk
 clear hnk
 have HA:=zxi hA
 have hpos:0<(qC n).length:=by rw[jS hn0];simp
 obtain⟨b,off,hAe,hbl,_⟩:=hA hpos
 subst hAe
 have HD:=zxi (jQ n)
 have HV:=zxi (Qy n)
 have HN:=zxi hn
 have hne:¬ ((qC n).length:Int)=0:=by omega
 have hne2:(((qC n).length:Int) == 0)=false:=by simpa using hne
 clear hA hn0 hbl
 generalize qC n=l at *
 obtain⟨z,hz⟩:∃ z,k/16=z:=⟨_,rfl⟩
 obtain⟨j,hj⟩:∃ j,k%16=j:=⟨_,rfl⟩
 have hz1':(k:Int)/16=(z:Int):=by omega
 have hj1:(k:Int)%16=(j:Int):=by omega
 have hj2:j<16:=by omega
 have hmk:=qaM z zxo (z:Int) rfl
 have HZ:=zxi hz
 have HJ:=zxi hj
 obtain⟨J,hJ⟩:∃ J:Nat,2^j=J:=⟨_,rfl⟩
 have hJ2:J<65536:=by
  have:2^j<2^16:=Nat.pow_lt_pow_right zxd hj2
  rw[hJ] at this;exact this
 have hsh:IntKind.u64.wrap ((2:Int)^j)=(J:Int):=by
  have:((2:Int)^j)=(J:Int):=by rw[← hJ];push_cast;rfl
  rw[this];simp only[IntKind.wrap,IntKind.bits,IntKind.signed];simp;omega
 have HJJ:=zxi hJ
 have hlJ:(qC J).length≤1:=jn 1 J (by simpa using hJ2)
 have HLJ:=zxi hlJ
 have HO:=zxi (qcg J zxo)
 clear hz hj hJ hlJ
 go_enter Tryz.func166,Tryz.ntmps166
 go_wp2_with (at_builtin;go_must (refine qaA (cs:=uc) (sz:=1) rfl _ _ 135 rfl 87 i30 _ 8 Tryz.underlying135 hi30 hz0 hz1 hz2 rfl zxd Ji qbb _ w.heap.size w.heap.size _ (List.replicate z 0) l _ l.length c (by rfl) (by rfl) rfl (qfB (z:=List.replicate z 0) rfl zxs (by have:=HZ.out;omega)) (HA.out.alloc zxn _) (by unfold maxLen;simp;have:=HZ.out;have:=HNK.out;omega) (by simp;have:=HZ.out;have:=HNK.out;omega) zxs ?_);intro v' w' hown' hg hat)
 obtain⟨L,hL⟩:∃ L,List.replicate z 0++l=L:=⟨_,rfl⟩
 have HLL:=zxi hL
 rw[hL] at hown'
 clear hL
 obtain⟨A2,c2,rfl,hr2⟩:=hown'.row Ji
 have hb2:Below w.heap.size w w':=qI ((Below.refl _ _).alloc zxn _) (qfB (z:=List.replicate z 0) rfl zxs (by have:=HZ.out;omega)) zxs hg
 have HB2:=zxi hb2
 have HR2:=zxi hr2
 clear hb2 hr2 hown' hg hat
 refine(HO.out w').mono ?_
 rintro e w3 ⟨⟨A3,c3,rfl,hc3,hr3⟩,hb3⟩
 have hLl:L.length≤1000:=by rw[← HLL.out];simp;have:=HZ.out;have:=HNK.out;omega
 have hLd:∀ x∈L,x<65536:=fun x hx=>by
  rw[← HLL.out] at hx
  rcases List.mem_append.1 hx with h | h
  · rw[List.mem_replicate] at h;omega
  · exact HD.out x h
 have hval:vl L*vl (qC J)=n*2^k:=by
  rw[← HLL.out,qkU,HV.out,Qy,← HJJ.out]
  have:k=16*z+j:=by have:=HZ.out;have:=HJ.out;omega
  rw[this,Nat.pow_add,Nat.pow_mul]
  rw[show(2:Nat)^16=65536 by decide];ac_rfl
 have HT:=qdq A2 A3 c2 c3 L (qC J) w3 hLl (by have:=HLJ.out;omega) (HR2.out.after zxn hb3) hr3 hLd (jQ J)
 rw[hval] at HT
 replace HT:=zxi HT
 clear hval hLl hLd
 have HB3:=zxi (qa HB2.out hb3)
 clear hb3 hr3
 go_wp2_with fail
 refine HT.out.mono ?_
 rintro e w4 ⟨⟨A4,c4,rfl,hc4,hr4⟩,hb4⟩
 have HB4:=zxi (qa HB3.out hb4)
 have HR4:=zxi hr4
 have HC4:=zxi hc4
 clear hr4 hc4 hb4
 go_wp2_with fail
 go_ret
 exact⟨⟨A4,c4,rfl,HC4.out,HR4.out⟩,HB4.out⟩
theorem qjy (n k:Nat) (A:Option Addr) (c:Nat) (w:World) (hn:(qC n).length+k/16≤900) (hA:RowOf uc 1 w w.heap.size A (qC n)) :
  Calls Tryz.prog 166 #[.slice A (qC n).length c,.int .i64 k] w fun e w'=>QH (n*2^k) e w'∧Below w.heap.size w w':=by
 by_cases h:n=0
 · subst h
   rw[qS,Nat.zero_mul]
   exact qnJ k A c w
 · exact qsn n k A c w h hn hA
def qeA (n m:Nat) (e:Ending) (w:World):Prop:=∃ A c B d,e = .returned (.tuple #[.slice A (qC n).length c,.slice B (qC m).length d])∧RowOf uc 1 w w.heap.size A (qC n)∧RowOf uc 1 w w.heap.size B (qC m)
theorem qhl (p q k:Nat) (A B:Option Addr) (ca cb:Nat) (w:World) (hp:(qC p).length+k/16≤900) (hk:k≤8000) (hA:RowOf uc 1 w w.heap.size A (qC p)) (hB:RowOf uc 1 w w.heap.size B (qC q)) :
  Calls Tryz.prog 163 #[.slice A (qC p).length ca,.slice B (qC q).length cb,.int .i64 k] w fun e w'=>qeA (p*2^k) q e w'∧Below w.heap.size w w':=by
 have HU:=zxi (qjy p k A ca w hp hA)
 have HB:=zxi hB
 clear hA hB
 go_enter Tryz.func163,Tryz.ntmps163
 go_wp2_with (go_at_call 166;refine HU.out.mono ?_;rintro e w1 ⟨⟨A1,c1,rfl,hc1,hr1⟩,hb1⟩)
 go_ret2
 exact⟨⟨A1,c1,B,cb,rfl,hr1,HB.out.after zxn hb1⟩,hb1⟩
theorem qiW (p q m:Nat) (k:Int) (hkm : -k=(m:Int)) (hk0:k<0) (A B:Option Addr) (ca cb:Nat) (w:World) (hq:(qC q).length+m/16≤900) (hk:m≤8000) (hA:RowOf uc 1 w w.heap.size A (qC p)) (hB:RowOf uc 1 w w.heap.size B (qC q)) :
  Calls Tryz.prog 163 #[.slice A (qC p).length ca,.slice B (qC q).length cb,.int .i64 k] w fun e w'=>qeA p (q*2^m) e w'∧Below w.heap.size w w':=by
 have HU:=zxi (qjy q m B cb w hq hB)
 have HA:=zxi hA
 have h1:¬ 0≤k:=by omega
 have h2 : -8000≤k:=by omega
 have h3:IntKind.i64.wrap (-k)=(m:Int):=by rw[hkm];simp only[IntKind.wrap,IntKind.bits,IntKind.signed];simp;omega
 clear hA hB
 go_enter Tryz.func163,Tryz.ntmps163
 go_wp2_with (go_at_call 166;refine HU.out.mono ?_;rintro e w1 ⟨⟨A1,c1,rfl,hc1,hr1⟩,hb1⟩)
 go_ret2
 exact⟨⟨A,ca,A1,c1,rfl,HA.out.after zxn hb1,hr1⟩,hb1⟩
theorem qb5 (p q:Nat) (k:Int) (A B:Option Addr) (ca cb:Nat) (w:World) (hp:(qC p).length+k.toNat/16≤900) (hq:(qC q).length+(-k).toNat/16≤900) (hk : -8000≤k) (hk2:k≤8000) (hA:RowOf uc 1 w w.heap.size A (qC p)) (hB:RowOf uc 1 w w.heap.size B (qC q)) :
  Calls Tryz.prog 163 #[.slice A (qC p).length ca,.slice B (qC q).length cb,.int .i64 k] w fun e w'=>qeA (p*2^k.toNat) (q*2^(-k).toNat) e w'∧Below w.heap.size w w':=by
 by_cases h:0≤k
 · obtain⟨m,rfl⟩:∃ m:Nat,k=(m:Int):=⟨k.toNat,by omega⟩
   have:=qhl p q m A B ca cb w zxo zxo hA hB
   rwa [show((m:Int)).toNat=m by omega,show(-(m:Int)).toNat=0 by omega,Nat.pow_zero,Nat.mul_one]
 · have:=qiW p q (-k).toNat k zxo zxo A B ca cb w hq zxo hA hB
   rwa [show k.toNat=0 by omega,Nat.pow_zero,Nat.mul_one]
theorem qkN (n i d:Nat) (h:(qC n)[i]?=some d):d=n/65536^i%65536:=by
 induction i generalizing n with
 | zero =>
  by_cases h0:n=0
  · subst h0;rw[qS] at h;cases h
  · rw[jS h0] at h;simp at h;simp[h.symm]
 | succ i ih =>
  by_cases h0:n=0
  · subst h0;rw[qS] at h;cases h
  · rw[jS h0] at h;simp at h
    rw[ih _ h,Nat.pow_succ,Nat.mul_comm,Nat.div_div_eq_div_mul]
theorem qnp (x j:Nat) (hj:j<16):x%65536/2^j%2=x/2^j%2:=by
 have h:=Nat.testBit_mod_two_pow x 16 j
 rw[show(2:Nat)^16=65536 by decide] at h
 rw[Nat.testBit_eq_decide_div_mod_eq,Nat.testBit_eq_decide_div_mod_eq,decide_eq_true hj,Bool.true_and] at h
 have h2:=decide_eq_decide.1 h
 omega
def qd2 (n b:Nat):Prop:=n<2^b∧(n≠0→1≤b∧2^(b-1)≤n)
theorem qfh (n:Nat) (A:Option Addr) (c:Nat) (w:World) (hn:(qC n).length≤1000) (hA:RowOf uc 1 w w.heap.size A (qC n)) :
  Calls Tryz.prog 162 #[.slice A (qC n).length c] w fun e w'=>(∃ b:Nat,e = .returned (.int .i64 b)∧b≤16000∧qd2 n b)∧Below w.heap.size w w':=by
 have HA:=zxi hA
 have hlt:=qaG n
 rw[show(65536:Nat)=2^16 by decide,← Nat.pow_mul] at hlt
 have HL:=zxi hlt
 have HG:=zxi (qkN n)
 clear hA hlt
 generalize qC n=l at *
 go_enter Tryz.func162,Tryz.ntmps162
 go_wp2_with fail
 go_loopw [3] (fun kv wr=>∃ (k:Nat),k≤16*l.length∧kv = .int .i64 k∧n<2^k∧Below w.heap.size w wr) (fun kv _=>(intOf kv).toNat)
 case atStart=>exact⟨16*l.length,Nat.le_refl _,by go_num,HL.out,Below.refl _ _⟩
 case round =>
  obtain⟨k,hk,rfl,hnk,hb⟩:=hrel
  have HK:=zxi hnk
  have HB:=zxi hb
  clear hnk hb
  by_cases h0:k=0
  · subst h0
    have HZ:=zxi (show n=0 by have:=HK.out;simpa using this)
    go_wp2_with fail
    go_ret
    exact⟨⟨0,rfl,by omega,HK.out,fun h=>absurd HZ.out h⟩,HB.out⟩
  · obtain⟨p,rfl⟩:∃ p,k=p+1:=⟨k-1,by omega⟩
    obtain⟨i,hi⟩:∃ i,p/16=i:=⟨_,rfl⟩
    obtain⟨j,hj⟩:∃ j,p%16=j:=⟨_,rfl⟩
    have hj16:j<16:=by omega
    have hil:i<l.length:=by omega
    obtain⟨d,hd⟩:=jx hil
    obtain⟨b,off,rfl,_,hc⟩:=Jq (HA.out.below HB.out zxn) hd
    have hdv:=HG.out i d hd
    have hbit:d/2^j%2=n/2^p%2:=by
     rw[hdv,qnp _ _ hj16,Nat.div_div_eq_div_mul,show(65536:Nat)=2^16 by decide,← Nat.pow_mul,← Nat.pow_add,show 16*i+j=p by omega]
    have hi1:(p:Int)/16=(i:Int):=by omega
    have hj1:(p:Int)%16=(j:Int):=by omega
    have e1:((p+1:Nat):Int)-1=(p:Int):=by omega
    have g0:(0:Int)≤(i:Int):=by omega
    have g1:(i:Int)<(l.length:Int):=by omega
    have HI:=zxi hi
    have HJ:=zxi hj
    obtain⟨D,hD⟩:∃ D:Nat,d/2^j=D:=⟨_,rfl⟩
    have hD1:(d:Int)/2^j=(D:Int):=by rw[← hD];push_cast;rfl
    rw[hD] at hbit
    have HBIT:=zxi hbit
    have hg2:(0:Int)≤(D:Int):=by omega
    clear hi hj hd hdv hbit hD
    by_cases hz:D%2=0
    · have hb1:((D:Int)%2 == 0)=true:=by simp;omega
      have hb2:(D:Int)%2=0:=by omega
      have HZ:=zxi hz
      clear hz
      go_wp2_with fail
      refine⟨⟨p,by omega,rfl,?_,HB.out⟩,by simp[intOf]⟩
      have h1:=HK.out
      have h2:=HBIT.out
      have h3:=HZ.out
      have h4:n/2^p<2:=by rw[Nat.div_lt_iff_lt_mul (Nat.two_pow_pos p),Nat.mul_comm,← Nat.pow_succ];exact h1
      have h5:n/2^p=0:=by
       generalize n/2^p=z at *
       omega
      exact(Nat.div_eq_zero_iff.1 h5).resolve_left (by have:=Nat.two_pow_pos p;omega)
    · have hb1:((D:Int)%2 == 0)=false:=by simp;omega
      have HZ:=zxi hz
      clear hz
      go_wp2_with fail
      go_ret
      refine⟨⟨p+1,rfl,by omega,HK.out,fun _=>⟨by omega,?_⟩⟩,HB.out⟩
      have h2:=HBIT.out
      have h3:=HZ.out
      have h5:n/2^p≠0:=by
       generalize n/2^p=z at *
       omega
      rcases Nat.lt_or_ge n (2^p) with h6 | h6
      · exact absurd (Nat.div_eq_of_lt h6) h5
      · simpa using h6
end Go.Proofs.YtacdfjlncfidgaaGreatDoor
