/- A part of what the claim leans on. -/
import Derived.Test.YtacdfjlncfidgaaGreatDoorQS
import Derived.Test.YtacdfjlncfidgaaGreatDoorQG
import Derived.Test.YtacdfjlncfidgaaGreatDoorQC
import Derived.Laws.FloatArith
import Derived.Test.YtacdfjlncfidgaaGreatDoorQT
namespace Go.Proofs.YtacdfjlncfidgaaGreatDoor
open Go.RowKit
set_option linter.unusedVariables false
set_option linter.unusedSimpArgs false
set_option maxRecDepth 1000000
set_option maxHeartbeats 1600000
def sg (b:Nat):Bool:=decide (9223372036854775808≤b)
abbrev qpG (b:Nat):Prop:=b%9223372036854775808<9218868437227405312
abbrev qoD (b:Nat):Prop:=b%9223372036854775808=0
theorem qeh (s:Bool) (m:Nat) (e:Int):Ieee.double.write (.number s m e)=Ieee.double.word s (nr m e):=qf4 s m e
theorem spM_zero {b:Nat}:spM b=0↔qoD b:=by
 constructor
 · intro h
   have h1:=quQ b
   rw[h,Nat.zero_mul] at h1
   have:=qiN (h1.symm.trans V_zero.symm)
   exact this
 · intro h
   have h1:=quQ b
   rw[h,V_zero] at h1
   rcases Nat.mul_eq_zero.1 h1 with h2 | h2
   · exact h2
   · have:=Nat.two_pow_pos (spK b);omega
def xs (a b:Nat):Bool:=sg a ^^ sg b
theorem qo7 {a b:Nat} (ha:a<18446744073709551616) (hb:b<18446744073709551616) (h1:qpG a) (h2:qpG b) :
  floatBits .mul .f64 a b=some (Ieee.double.word (xs a b) (nr (spM a*spM b) (spE a+spE b))):=by
 show((Ieee.double.read a).product (Ieee.double.read b)).map Ieee.double.write=_
 rw[qa1 a ha h1,qa1 b hb h2]
 unfold Ieee.Datum.product
 simp only[Option.map_some,qeh];rfl
theorem qm0 {a b:Nat} (ha:a<18446744073709551616) (hb:b<18446744073709551616) (h1:qpG a) (h2:qpG b) (za:¬ qoD a) (zb:¬ qoD b) (u v:Nat) (h:spE a-spE b+1074=(u:Int)-(v:Int)) :
  floatBits .quo .f64 a b=some (Ieee.double.word (xs a b) (rd (spM a*2^u) (spM b*2^v))):=by
 show((Ieee.double.read a).quotient _ (Ieee.double.read b)).map Ieee.double.write=_
 rw[qa1 a ha h1,qa1 b hb h2]
 unfold Ieee.Datum.quotient
 have hm:spM a≠0:=fun e=>za (spM_zero.1 e)
 have hn:spM b≠0:=fun e=>zb (spM_zero.1 e)
 simp only
 rw[if_neg hn]
 simp only[Option.map_some,qeh]
 have:=qpn (spM a) (spM b) hm hn (qsx a) (spE a) (spE b) u v h
 rw[← this]
 rfl
theorem qit {r r' p p' q:Nat} (hq:0<q) (h:Near r p q) (h':Near r' p' q) (hp:p≤p'):r≤r':=by
 rcases Nat.lt_or_ge r' r with hlt | hge
 · exfalso
   have h1:=h.lo zxo
   have h2:=h'.hi (by have:=h.le;omega)
   have m1:V r'≤V (r-1):=qdL zxo
   have m2:V (r'+1)≤V r:=qdL zxo
   have h3:(V r'+V (r'+1))*q≤(V (r-1)+V r)*q:=Nat.mul_le_mul_right _ zxo
   have e:p=p':=by omega
   subst e
   have:=h.uniq hq h'
   omega
 · exact hge
theorem qcU {p p' q:Nat} (hq:0<q) (hp:p≤p'):rd p q≤rd p' q:=qit hq (qcl p q hq) (qcl p' q hq) hp
theorem qfm (m:Nat) (hm:m<9007199254740992) (K:Nat) (hK:K=1074):V (jl m)=m*2^K:=by
 by_cases h0:m=0
 · subst h0
   rw[show jl 0=0 by rfl,Nat.zero_mul]
   rfl
 · have hl:m.log2≤52:=by
    have:m.log2<53:=by rw[Nat.log2_lt h0];exact hm
    omega
   have e:jl m=(m.log2+1022)*4503599627370496+m*2^(52-m.log2):=by
    unfold jl;rw[if_neg h0,if_pos hl]
   have m1:=Nat.log2_self_le h0
   have m2:=Nat.lt_log2_self (n:=m)
   have a1:4503599627370496≤m*2^(52-m.log2):=by
    rw[show(4503599627370496:Nat)=2^m.log2*2^(52-m.log2) by rw[← Nat.pow_add,show m.log2+(52-m.log2)=52 by omega]]
    exact Nat.mul_le_mul_right _ m1
   have a2:m*2^(52-m.log2)<9007199254740992:=by
    rw[show(9007199254740992:Nat)=2^(m.log2+1)*2^(52-m.log2) by rw[← Nat.pow_add,show m.log2+1+(52-m.log2)=53 by omega]]
    exact Nat.mul_lt_mul_of_pos_right m2 (Nat.two_pow_pos _)
   rw[e,qpF _ _ zxo (.inr a1),Nat.mul_assoc,← Nat.pow_add]
   congr 2
   omega
theorem qeK (m:Nat) (hm:m<9007199254740992):jl m<9218868437227405312:=by
 by_cases h0:m=0
 · subst h0;decide
 · have hl:m.log2≤52:=by
    have:m.log2<53:=by rw[Nat.log2_lt h0];exact hm
    omega
   have h1:=(Q4 m h0).2
   have h2:(m.log2+1024)*4503599627370496≤1076*4503599627370496:=Nat.mul_le_mul_right _ zxo
   omega
theorem J3 (r:Nat):Ieee.double.word false r=r:=by unfold Ieee.Format.word;simp
theorem qmA {a b:Nat} (ha:a<9218868437227405312) (hb:b<9218868437227405312):xs a b=false:=by
 have h1:¬ 9223372036854775808≤a:=by omega
 have h2:¬ 9223372036854775808≤b:=by omega
 unfold xs sg
 rw[decide_eq_false h1,decide_eq_false h2]
 rfl
theorem qfz {a:Nat} (ha:a<9218868437227405312):spM a*2^spK a=V a:=by
 have h1:=quQ a
 rwa [Nat.mod_eq_of_lt zxo] at h1
theorem qcs {a:Nat} (ha:a<9218868437227405312):qpG a:=by unfold qpG;omega
theorem qeD (m:Nat) (hm:m<9007199254740992) (K:Nat) (hK:K=1074):jl m=rd (m*2^K) 1:=by
 rw[← qfm m hm K hK,qwV (qeK m hm)]
theorem mul_pos {a b:Nat} (ha:a<9218868437227405312) (hb:b<9218868437227405312) (K:Nat) (hK:K=1074):floatBits .mul .f64 a b=some (rd (V a*V b) (2^K)):=by
 have e1:nr (spM a*spM b) (spE a+spE b)=rd (V a*V b) (2^K):=by
  rw[qvG _ _ (spK a+spK b) K (by rw[qkE,qkE];omega),Nat.pow_add,← qfz ha,← qfz hb]
  have:spM a*spM b*(2^spK a*2^spK b)=spM a*2^spK a*(spM b*2^spK b):=by grind
  rw[this]
 rw[qo7 zxo zxo (qcs ha) (qcs hb),e1,qmA ha hb,J3]
theorem qoj {a b:Nat} (ha:a<9218868437227405312) (hb:b<9218868437227405312) (ha0:¬ qoD a) (hb0:¬ qoD b) (K:Nat) (hK:K=1074):floatBits .quo .f64 a b=some (rd (V a*2^K) (V b)):=by
 have e0:spE a-spE b+1074=((spK a+K:Nat):Int)-(spK b:Int):=by rw[qkE,qkE];omega
 rw[qm0 zxo zxo (qcs ha) (qcs hb) ha0 hb0 (spK a+K) (spK b) e0,qmA ha hb,J3,Nat.pow_add,← Nat.mul_assoc,qfz ha,qfz hb]
def qfl (j:Nat):Nat:=[4607182418800017408,4621819117588971520,4636737291354636288,4652007308841189376,4666723172467343360,4681608360884174848,4696837146684686336,4711630319722168320,4726483295884279808,4741671816366391296,4756540486875873280,4771362005757984768,4786511204640096256,4801453603149578240,4816244402031689728,4831355200913801216,4846369599423283200,4861130398305394688,4876203697187506176,4891288408196988160,4906019910204099648,4921056587992461136,4936209963552724370].getD j 0
theorem J9 (j:Nat) (hj:j<23):powDs[j]?=some (.lit (.float .f64 (qfl j))):=by
 have h:j=0∨j=1∨j=2∨j=3∨j=4∨j=5∨j=6∨j=7∨j=8∨j=9∨j=10∨j=11∨j=12∨j=13∨j=14∨j=15∨j=16∨j=17∨j=18∨j=19∨j=20∨j=21∨j=22:=by omega
 rcases h with rfl | rfl | rfl | rfl | rfl | rfl | rfl | rfl | rfl | rfl | rfl | rfl | rfl | rfl | rfl | rfl | rfl | rfl | rfl | rfl | rfl | rfl | rfl<;>rfl
theorem qne:∀ j:Fin 23,V (qfl j.val)=10^j.val*2^1074:=by decide +kernel
theorem qmf (j:Nat) (hj:j<23) (K:Nat) (hK:K=1074):V (qfl j)=10^j*2^K:=by rw[hK];exact qne ⟨j,hj⟩
theorem qiL:∀ j:Fin 23,4607182418800017408≤qfl j.val∧qfl j.val≤4936209963552724370:=by decide +kernel
theorem Ju (d:Nat) (hd:d<9007199254740992):floatOfInt .f64 (d:Int)=jl d:=by
 rw[qcn _ zxo zxo]
 unfold tf
 rw[decide_eq_false zxo,Int.natAbs_natCast,J3]
theorem JL {r:Nat} (h:r≤9218868437227405312):qpJ r=false:=by
 rw[qiv]
 rw[decide_eq_false_iff_not]
 omega
theorem qjH {r:Nat} (h:r≤9218868437227405312):FloatKind.f64.format.order r 4831355200913801216=some (compare (r:Int) 4831355200913801216):=by
 rw[show FloatKind.f64.format=Ieee.double from rfl,qaY zxo zxd (JL h) (JL zxd)]
 have h1:pl r=(r:Int):=by
  exact qti
 rw[h1,show pl 4831355200913801216=4831355200913801216 by decide]
theorem qjl {r:Nat} (h:r≤9218868437227405312):FloatKind.f64.format.order r 14054727237768577024=some .gt:=by
 rw[show FloatKind.f64.format=Ieee.double from rfl,qaY zxo zxd (JL h) (by decide +kernel)]
 have h1:pl r=(r:Int):=by
  exact qti
 have h2:compare (r:Int) (-4831355200913801216) = .gt:=by
  exact qsw
 rw[h1,show pl 14054727237768577024 = -4831355200913801216 by decide,h2]
def qtE (d:Nat) (p:Int) (K:Nat) (g:Nat) (ok:Bool):Prop:=ok=true→g=rd (d*10^p.toNat*2^K) (10^(-p).toNat)∧g<9218868437227405312
theorem qmO (d:Nat) (hd:d<4503599627370496):EX d 0 (jl d) true:=by
 intro w hG
 have h3:=hG.glob.knows.width
 have hq:((d:Int)/4503599627370496 != 0)=false:=by rw[bne_eq_false_iff_eq];omega
 have hf:=Ju d zxo
 clear hG
 exact qlp
theorem qsp (d:Nat) (p:Int) (hd:d<4503599627370496) (hp:37<p∨p < -22) (hp0 : -1000≤p) (hp1:p≤1000):EX d p (jl d) false:=by
 intro w hG
 have h3:=hG.glob.knows.width
 have hq:((d:Int)/4503599627370496 != 0)=false:=by rw[bne_eq_false_iff_eq];omega
 have hf:=Ju d zxo
 clear hG
 have k0:(p == 0)=false:=by rw[beq_eq_false_iff_ne];omega
 rcases hp with hp | hp
 · have k1:¬ p≤37:=by omega
   have k2:¬ p<0:=by omega
   have k3:0<p:=by omega
   exact qlp
 · have k1:¬ 0<p:=by omega
   have k2:¬ -22≤p:=by omega
   have k3:p<0:=by omega
   exact qlp
theorem qqr (d j R:Nat) (p:Int) (hd:d<4503599627370496) (hp : -p=(j:Int)) (hj1:1≤j) (hj:j<23) (hr:floatBits .quo .f64 (jl d) (qfl j)=some R):EX d p R true:=by
 intro w hG
 obtain⟨pb,po,c,h1,h2⟩:=hG.powf
 have h4:=h2 j _ (J9 j hj)
 have h3:=hG.glob.knows.width
 have hqd:((d:Int)/4503599627370496 != 0)=false:=by rw[bne_eq_false_iff_eq];omega
 have hf:=Ju d zxo
 have hq:∀ w:World,(binOp .quo 171 (.float .f64 (jl d)) (.float .f64 (qfl j))).run Tryz.prog w = .ok (.float .f64 R) w:=fun w=>run_float_arith w .quo 171 .f64 _ _ _ hr
 have k0:(p == 0)=false:=by rw[beq_eq_false_iff_ne];omega
 have k1:¬ 0<p:=by omega
 have k2 : -22≤p:=by omega
 have k3:p<0:=by omega
 have k4:(j:Int)<23:=by omega
 clear hG h2 hr
 exact qpB
theorem qmw {r c:Nat} (h:c<r):compare (r:Int) (c:Int) = .gt:=by
 exact qsw
theorem qpj {r c:Nat} (h:r≤c):compare (r:Int) (c:Int) = .lt∨compare (r:Int) (c:Int) = .eq:=by
 simp only[compare,compareOfLessAndEq]
 rcases Nat.lt_or_ge r c with h1 | h1
 · left;rw[if_pos zxo]
 · right;rw[if_neg zxo,if_pos zxo]
def e15:Nat:=4831355200913801216
theorem qrV {r:Nat} (h:r≤9218868437227405312) (h2:e15<r):FloatKind.f64.format.order r 4831355200913801216=some .gt:=by rw[qjH h];exact congrArg some (qmw (c:=e15) h2)
theorem qul {r:Nat} (h:r≤9218868437227405312) (h2:r≤e15):FloatKind.f64.format.order r 4831355200913801216=some .lt∨FloatKind.f64.format.order r 4831355200913801216=some .eq:=by
 rw[qjH h]
 rcases qpj (c:=e15) h2 with h3 | h3
 · exact .inl (congrArg some h3)
 · exact .inr (congrArg some h3)
def qvx (F:Nat):Prop:=(FloatKind.f64.format.order F 4831355200913801216=some .lt∨FloatKind.f64.format.order F 4831355200913801216=some .eq)∧FloatKind.f64.format.order F 14054727237768577024=some .gt
def qv8 (F:Nat):Prop:=FloatKind.f64.format.order F 4831355200913801216=some .gt∧FloatKind.f64.format.order F 14054727237768577024=some .gt
theorem qrK (d j F R:Nat) (hd:d<4503599627370496) (hF:jl d=F) (hj1:1≤j) (hj:j<23) (hr:floatBits .mul .f64 F (qfl j)=some R) (hl:qvx F):EX d j R true:=by
 intro w hG
 have hqd:((d:Int)/4503599627370496 != 0)=false:=by rw[bne_eq_false_iff_eq];omega
 have hf:=Ju d zxo
 rw[hF] at hf
 have hq:∀ w:World,(binOp .mul 171 (.float .f64 F) (.float .f64 (qfl j))).run Tryz.prog w = .ok (.float .f64 R) w:=fun w=>run_float_arith w .mul 171 .f64 _ _ _ hr
 have k0:((j:Int) == 0)=false:=by rw[beq_eq_false_iff_ne];omega
 have k1:(0:Int)<(j:Int):=by omega
 have k2:(j:Int)≤37:=by omega
 have k3:¬ (22:Int)<(j:Int):=by omega
 have k4:(j:Int)<23:=by omega
 obtain⟨pb,po,c,h1,h2⟩:=hG.powf
 have h4:=h2 j _ (J9 j hj)
 have h3:=hG.glob.knows.width
 obtain⟨ho,ho2⟩:=hl
 clear hG h2 hr hF hd
 exact qtN
theorem qjV (d j F:Nat) (hd:d<4503599627370496) (hF:jl d=F) (hj1:1≤j) (hj:j<23) (hl:qv8 F):EX d j F false:=by
 intro w hG
 have hqd:((d:Int)/4503599627370496 != 0)=false:=by rw[bne_eq_false_iff_eq];omega
 have hf:=Ju d zxo
 rw[hF] at hf
 have k0:((j:Int) == 0)=false:=by rw[beq_eq_false_iff_ne];omega
 have k1:(0:Int)<(j:Int):=by omega
 have k2:(j:Int)≤37:=by omega
 have k3:¬ (22:Int)<(j:Int):=by omega
 have h3:=hG.glob.knows.width
 obtain⟨ho,ho2⟩:=hl
 clear hG hF hd
 exact qpB
theorem qiO (d j F R T:Nat) (hd:d<4503599627370496) (hF:jl d=F) (hj1:1≤j) (hj:j≤15) (hr:floatBits .mul .f64 F (qfl j)=some R) (hr2:floatBits .mul .f64 R 4936209963552724370=some T) :
  (qvx R→EX d ((j:Int)+22) T true)∧(qv8 R→EX d ((j:Int)+22) R false):=by
 have hqd:((d:Int)/4503599627370496 != 0)=false:=by rw[bne_eq_false_iff_eq];omega
 have hf:=Ju d zxo
 rw[hF] at hf
 have hq:∀ w:World,(binOp .mul 171 (.float .f64 F) (.float .f64 (qfl j))).run Tryz.prog w = .ok (.float .f64 R) w:=fun w=>run_float_arith w .mul 171 .f64 _ _ _ hr
 have hq2:∀ w:World,(binOp .mul 171 (.float .f64 R) (.float .f64 4936209963552724370)).run Tryz.prog w = .ok (.float .f64 T) w:=fun w=>run_float_arith w .mul 171 .f64 _ _ _ hr2
 have k0:((j:Int)+22 == 0)=false:=by rw[beq_eq_false_iff_ne];omega
 have k1:(0:Int)<(j:Int)+22:=by omega
 have k2:(j:Int)+22≤37:=by omega
 have k3:(22:Int)<(j:Int)+22:=by omega
 have k4:(j:Int)<23:=by omega
 have k5:(j:Int)+22-22=(j:Int):=by omega
 constructor
 · intro hl w hG
   obtain⟨pb,po,c,h1,h2⟩:=hG.powf
   have h4:=h2 j _ (J9 j zxo)
   have h5:w.cell? ⟨pb,po+22,none⟩=some (.float .f64 4936209963552724370):=h2 22 4936209963552724370 (J9 22 zxd)
   have h3:=hG.glob.knows.width
   obtain⟨ho,ho2⟩:=hl
   clear hG h2 hr hr2 hF hd
   exact qtN
 · intro hl w hG
   obtain⟨pb,po,c,h1,h2⟩:=hG.powf
   have h4:=h2 j _ (J9 j zxo)
   have h3:=hG.glob.knows.width
   obtain⟨ho,ho2⟩:=hl
   clear hG h2 hr hr2 hF hd hq2
   exact qpB
theorem qkH (d:Nat) (p:Int) (hd:4503599627370496≤d) (hd2:d<18446744073709551616):EX d p 0 false:=by
 intro w hG
 have h3:=hG.glob.knows.width
 have hq:((d:Int)/4503599627370496 != 0)=true:=by simp;omega
 clear hG
 exact qlp
theorem qph (N K k:Nat) (hK:K=1074) (hk:k≤200) (hk2:52≤k) (h:N≤2^k):rd (N*2^K) 1<9218868437227405312:=by
 have h1:rd (N*2^K) 1≤rd (2^k*2^K) 1:=qcU zxd (Nat.mul_le_mul_right _ h)
 have e:2^k*2^K=V ((K+k-52)*4503599627370496+4503599627370496):=by
  rw[qpF _ _ zxd (.inr zxn),show(4503599627370496:Nat)=2^52 by decide,← Nat.pow_add,← Nat.pow_add]
  congr 1
  omega
 have h3:(K+k-52)*4503599627370496≤1222*4503599627370496:=Nat.mul_le_mul_right _ zxo
 rw[e,qwV zxo] at h1
 omega
theorem qhS (d j K:Nat) (hK:K=1074) (hd:d<4503599627370496):rd (d*2^K) (10^j)<9218868437227405312:=by
 have hj:0<10^j:=Nat.pow_pos zxd
 have h1:rd (d*2^K) (10^j)≤rd (d*2^K*10^j) (1*10^j):=by
  rw[Nat.one_mul]
  exact qcU hj (Nat.le_mul_of_pos_right _ hj)
 rw[J8 _ _ _ zxd hj] at h1
 have h2:=qph d K 52 hK zxd zxd (by rw[show(2:Nat)^52=4503599627370496 by decide];omega)
 omega
theorem qe4 (F N j K:Nat) (hK:K=1074) (hF:F<9218868437227405312) (hV:V F=N*2^K) (hj:j<23):floatBits .mul .f64 F (qfl j)=some (rd (N*10^j*2^K) 1):=by
 have hb:=qiL ⟨j,hj⟩
 simp only at hb
 rw[mul_pos hF zxo K hK,hV,qmf j hj K hK]
 refine congrArg some ?_
 have h:=J8 (N*10^j*2^K) 1 (2^K) zxd (Nat.two_pow_pos K)
 rw[Nat.one_mul] at h
 rw[← h]
 refine congrArg (fun x=>rd x (2^K)) ?_
 generalize 2^K=k
 generalize 10^j=t
 grind
theorem qnw (d j K:Nat) (hK:K=1074) (hd0:0<d) (hd:d<4503599627370496) (hj:j<23):floatBits .quo .f64 (jl d) (qfl j)=some (rd (d*2^K) (10^j)):=by
 have hb:=qiL ⟨j,hj⟩
 simp only at hb
 have hr:=qeK d zxo
 have hr0:0<jl d:=qfT zxo
 rw[qoj hr zxo (by unfold qoD;omega) (by unfold qoD;omega) K hK,qfm d zxo K hK,qmf j hj K hK]
 refine congrArg some ?_
 exact J8 (d*2^K) (10^j) (2^K) (Nat.pow_pos zxd) (Nat.two_pow_pos K)
theorem qsM:jl 1000000000000000=e15:=by decide +kernel
theorem qhU {F:Nat} (h:F<9218868437227405312) (h2:F≤e15):qvx F:=⟨qul zxo h2,qjl zxo⟩
theorem qh9 {F:Nat} (h:F<9218868437227405312) (h2:¬ F≤e15):qv8 F:=⟨qrV zxo zxo,qjl zxo⟩
theorem qtY:qfl 22=4936209963552724370:=rfl
theorem qhx (j:Nat) (h:j≤22):10^j≤2^74:=Nat.le_trans (Nat.pow_le_pow_right zxd h) zxd
theorem qt4 (d:Nat) (p:Int) (K:Nat) (hK:K=1074) (hd0:0<d) (hd2:d<18446744073709551616) (hp0 : -1000≤p) (hp1:p≤1000):∃ g ok,EX d p g ok∧qtE d p K g ok:=by
 by_cases hd:4503599627370496≤d
 · exact⟨0,false,qkH d p hd hd2,fun h=>by cases h⟩
 have hd':d<4503599627370496:=by omega
 have hF:=qeK d zxo
 have hVF:=qfm d zxo K hK
 by_cases hz:p=0
 · subst hz
   refine⟨jl d,true,qmO d hd',fun _=>⟨?_,hF⟩⟩
   show jl d=rd (d*10^0*2^K) (10^0)
   rw[Nat.pow_zero,Nat.mul_one]
   exact qeD d zxo K hK
 by_cases hfar:37<p∨p < -22
 · exact⟨jl d,false,qsp d p hd' hfar hp0 hp1,fun h=>by cases h⟩
 by_cases hneg:p<0
 · obtain⟨j,hj⟩:∃ j:Nat,-p=(j:Int):=⟨(-p).toNat,by omega⟩
   refine⟨_,true,qqr d j _ p hd' hj zxo zxo (qnw d j K hK hd0 hd' zxo),fun _=>⟨?_,qhS d j K hK hd'⟩⟩
   rw[show p.toNat=0 by omega,show(-p).toNat=j by omega,Nat.pow_zero,Nat.mul_one]
 by_cases h22:p≤22
 · obtain⟨j,rfl⟩:∃ j:Nat,p=(j:Int):=⟨p.toNat,by omega⟩
   by_cases hle:jl d≤e15
   · refine⟨_,true,qrK d j _ _ hd' rfl zxo zxo (qe4 _ d j K hK hF hVF zxo) (qhU hF hle),fun _=>⟨?_,?_⟩⟩
     · rw[Int.toNat_natCast,show(-(j:Int)).toNat=0 by omega,Nat.pow_zero]
     · exact qqj
   · exact⟨jl d,false,qjV d j _ hd' rfl zxo zxo (qh9 hF hle),fun h=>by cases h⟩
 · obtain⟨j,rfl⟩:∃ j:Nat,p=(j:Int)+22:=⟨(p-22).toNat,by omega⟩
   have hm1:=qe4 _ d j K hK hF hVF (show j<23 by omega)
   have hR:rd (d*10^j*2^K) 1<9218868437227405312:=by
    exact qqj
   by_cases hle:rd (d*10^j*2^K) 1≤e15
   · have hN:d*10^j≤1000000000000000:=by
      rcases Nat.lt_or_ge 1000000000000000 (d*10^j) with h | h
      · exfalso
        have h1:rd (1000000000000001*2^K) 1≤rd (d*10^j*2^K) 1:=qcU zxd (Nat.mul_le_mul_right _ h)
        rw[← qeD 1000000000000001 zxd K hK] at h1
        have h2:=qeC (show 1000000000000000<1000000000000001 by decide) zxd
        rw[qsM] at h2
        omega
      · exact h
     have hVN:=qfm (d*10^j) zxo K hK
     rw[qeD (d*10^j) zxo K hK] at hVN
     have hm2:=qe4 _ (d*10^j) 22 K hK hR hVN zxd
     rw[qtY] at hm2
     refine⟨_,true,(qiO d j _ _ _ hd' rfl zxo zxo hm1 hm2).1 (qhU hR hle),fun _=>⟨?_,?_⟩⟩
     · rw[show((j:Int)+22).toNat=j+22 by omega,show(-((j:Int)+22)).toNat=0 by omega,Nat.pow_zero,Nat.pow_add,← Nat.mul_assoc]
     · refine qph _ K 126 hK zxd zxd ?_
       calc d*10^j*10^22≤2^52*2^74:=Nat.mul_le_mul (by rw[show(2:Nat)^52=4503599627370496 by decide];omega) (qhx 22 zxd)
        _=2^126:=by rw[← Nat.pow_add]
   · have hm2:∃ T,floatBits .mul .f64 (rd (d*10^j*2^K) 1) 4936209963552724370=some T:=⟨_,mul_pos hR zxd K hK⟩
     obtain⟨T,hT⟩:=hm2
     exact⟨_,false,(qiO d j _ _ _ hd' rfl zxo zxo hm1 hT).2 (qh9 hR hle),fun h=>by cases h⟩
end Go.Proofs.YtacdfjlncfidgaaGreatDoor
