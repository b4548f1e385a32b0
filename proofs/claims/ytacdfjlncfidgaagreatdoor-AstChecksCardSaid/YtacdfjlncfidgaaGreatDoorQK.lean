/- A part of what the claim leans on. -/
import Derived.Test.YtacdfjlncfidgaaGreatDoorQS
import Derived.Test.YtacdfjlncfidgaaGreatDoorQJ
import Derived.Deep.RegionWith
import Derived.Test.YtacdfjlncfidgaaGreatDoorQG
namespace Go.Proofs.YtacdfjlncfidgaaGreatDoor
open Go.RowKit
set_option linter.unusedVariables false
set_option linter.unusedSimpArgs false
set_option maxRecDepth 100000
set_option maxHeartbeats 6400000
def qpI (x hi lo s:Nat):Nat :=
 if x*hi/18446744073709551616%2^s≠0 then x*hi/18446744073709551616/2^s ||| 1
 else if x*lo/18446744073709551616≤x*hi%18446744073709551616 then x*hi/18446744073709551616/2^s ||| (decide (1<x*hi%18446744073709551616-x*lo/18446744073709551616)).toNat
 else (x*hi/18446744073709551616-1)/2^s ||| 1
theorem qp9:∀ s:Fin 64,bits BinOp.and IntKind.i64 ((s.val:Nat):Int) 63=((s.val:Nat):Int):=by decide +kernel
theorem QJ (n:Nat) (h:n<18446744073709551616):IntKind.u64.wrap (n:Int)=(n:Int):=by simp only[IntKind.wrap,IntKind.bits,IntKind.signed];simp;omega
theorem qa4 (a b:Nat) (ha:a<18446744073709551616) (hb:b<18446744073709551616):bits BinOp.or IntKind.u64 (a:Int) (b:Int)=((a ||| b:Nat):Int):=by
 have h:a ||| b<2^64:=Nat.or_lt_two_pow (by simpa using ha) (by simpa using hb)
 show IntKind.u64.wrap (((BitVec.ofInt 64 (a:Int) ||| BitVec.ofInt 64 (b:Int)).toNat:Nat):Int)=_
 rw[BitVec.toNat_or,BitVec.ofInt_natCast,BitVec.ofInt_natCast,BitVec.toNat_ofNat,BitVec.toNat_ofNat,Nat.mod_eq_of_lt (by simpa using ha),Nat.mod_eq_of_lt (by simpa using hb)]
 exact QJ _ (by simpa using h)
theorem J0 (a b:Nat) (ha:a<18446744073709551616) (hb:b<18446744073709551616):bits BinOp.and IntKind.u64 (a:Int) (b:Int)=((a &&& b:Nat):Int):=by
 have h:a &&& b<2^64:=Nat.and_lt_two_pow a (by simpa using hb)
 show IntKind.u64.wrap (((BitVec.ofInt 64 (a:Int) &&& BitVec.ofInt 64 (b:Int)).toNat:Nat):Int)=_
 rw[BitVec.toNat_and,BitVec.ofInt_natCast,BitVec.ofInt_natCast,BitVec.toNat_ofNat,BitVec.toNat_ofNat,Nat.mod_eq_of_lt (by simpa using ha),Nat.mod_eq_of_lt (by simpa using hb)]
 exact QJ _ (by simpa using h)
theorem qd8 (b:Bool) (w:World):Calls Tryz.prog 221 #[.bool b] w fun e w'=>e = .returned (.int .u64 (b.toNat:Nat))∧w=w':=by
 cases b
 all_goals
  go_enter Tryz.func221,Tryz.ntmps221
  go_wp2_with fail
  go_ret
  exact⟨rfl,rfl⟩
structure Sca (w:World) (b hi lo s:Nat):Prop where
 hi:w.cell? ⟨b,0,none⟩=some (.int .u64 hi)
 lo:w.cell? ⟨b,1,none⟩=some (.int .u64 lo)
 s:w.cell? ⟨b,2,none⟩=some (.int .i64 s)
theorem qlO (x hi lo s b H M A A2 R:Nat) (w:World) (h:Sca w b hi lo s) (hs:s<64) (hH:H<18446744073709551616)
  (hm:∀ w,Calls Tryz.prog 92 #[.int .u64 x,.int .u64 hi] w fun e w'=>e = .returned (.tuple #[.int .u64 H,.int .u64 M])∧w'=w)
  (hA:H/2^s=A) (hA2:A*2^s=A2) (hne:A2≠H) (hR:A ||| 1=R) :
  Calls Tryz.prog 232 #[.int .u64 x,.pointer (some ⟨b,0,none⟩)] w fun e w'=>e = .returned (.int .u64 R)∧w=w':=by
 obtain⟨c0,c1,c2⟩:=h
 have hle:A2≤H:=by rw[← hA2,← hA];exact Nat.div_mul_le_self H (2^s)
 have e1:=qp9 ⟨s,hs⟩
 simp only at e1
 have e2:(H:Int)/2^s=(A:Int):=by rw[← hA];push_cast;rfl
 have e3:IntKind.u64.wrap ((A:Int)*2^s)=(A2:Int):=by
  rw[show(A:Int)*2^s=(A2:Int) by rw[← hA2];push_cast;rfl];exact QJ _ zxo
 have hAlt:A<18446744073709551616:=by rw[← hA];exact Nat.lt_of_le_of_lt (Nat.div_le_self _ _) hH
 have e4:((A2:Int) != (H:Int))=true:=by simp;omega
 have e5:bits BinOp.or IntKind.u64 (A:Int) 1=(R:Int):=by rw[← hR];exact qa4 A 1 hAlt zxd
 have e6:¬ (s:Int)<0:=by omega
 have HM:=zxi hm
 clear hm hA hA2 hne hR
 go_enter Tryz.func232,Tryz.ntmps232
 go_wp2_with (go_at_call 92;refine(HM.out _).mono ?_;rintro e wx ⟨rfl,rfl⟩)
 go_ret
 exact⟨rfl,rfl⟩
theorem qf0 (x hi lo s b H M M2 L2 A H1 A1 d R:Nat) (b1 b2:Bool) (w:World) (h:Sca w b hi lo s) (hs:s<64) (hH:H<18446744073709551616)
  (hm:∀ w,Calls Tryz.prog 92 #[.int .u64 x,.int .u64 hi] w fun e w'=>e = .returned (.tuple #[.int .u64 H,.int .u64 M])∧w'=w)
  (hm2:∀ w,Calls Tryz.prog 92 #[.int .u64 x,.int .u64 lo] w fun e w'=>e = .returned (.tuple #[.int .u64 M2,.int .u64 L2])∧w'=w)
  (hA:H/2^s=A) (hA2:A*2^s=H) (hb1:decide (M<M2)=b1) (hH1:(H:Int)-(b1.toNat:Nat)=(H1:Int)) (hA1:H1/2^s=A1)
  (hd:IntKind.u64.wrap ((M:Int)-(M2:Int))=(d:Int)) (hb2:decide (1<d)=b2) (hR:A1 ||| b2.toNat=R) :
  Calls Tryz.prog 232 #[.int .u64 x,.pointer (some ⟨b,0,none⟩)] w fun e w'=>e = .returned (.int .u64 R)∧∃ n,w'=w.drewN n:=by
 obtain⟨c0,c1,c2⟩:=h
 have e1:=qp9 ⟨s,hs⟩
 simp only at e1
 have e2:(H:Int)/2^s=(A:Int):=by rw[← hA];push_cast;rfl
 have e3:IntKind.u64.wrap ((A:Int)*2^s)=(H:Int):=by
  rw[show(A:Int)*2^s=(H:Int) by rw[← hA2];push_cast;rfl];exact QJ _ hH
 have e4:((H:Int) != (H:Int))=false:=by simp
 have hH1lt:H1<18446744073709551616:=by omega
 have e7:(H1:Int)/2^s=(A1:Int):=by rw[← hA1];push_cast;rfl
 have hAlt:A1<18446744073709551616:=by rw[← hA1];exact Nat.lt_of_le_of_lt (Nat.div_le_self _ _) hH1lt
 have e5:bits BinOp.or IntKind.u64 (A1:Int) ((b2.toNat:Nat):Int)=(R:Int):=by rw[← hR];exact qa4 A1 _ hAlt (by cases b2<;>decide)
 have e6:¬ (s:Int)<0:=by omega
 have e8:IntKind.u64.wrap ((H:Int)-((b1.toNat:Nat):Int))=(H1:Int):=by rw[hH1];exact QJ _ hH1lt
 have HM:=zxi hm
 have HM2:=zxi hm2
 have HB1:=zxi (qd8 b1)
 have HB2:=zxi (show ∀ w,Calls Tryz.prog 221 #[.bool (decide ((1:Int)<(d:Int)))] w fun e w'=>e = .returned (.int .u64 (b2.toNat:Nat))∧w=w' from fun w=>by
  rw[show decide ((1:Int)<(d:Int))=b2 by rw[← hb2,decide_eq_decide];omega];exact qd8 b2 w)
 clear hm hm2 hA hA2 hR hA1 hH1 hb2
 go_enter Tryz.func232,Tryz.ntmps232
 go_wp2_with fail
 refine(HM.out _).mono ?_
 rintro e wx ⟨rfl,rfl⟩
 go_wp2_with fail
 refine(HM2.out _).mono ?_
 rintro e wx2 ⟨rfl,rfl⟩
 go_wp2_with (go_at_call 221;refine(HB1.out _).mono ?_;rintro e wx ⟨rfl,rfl⟩)
 go_region_with (go_at_call 221;refine(HB2.out _).mono ?_;rintro e wx ⟨rfl,rfl⟩)
 go_wp2_with fail
 go_ret
 exact⟨rfl,_,rfl⟩
theorem qf1 (x hi lo s b:Nat) (w:World) (h:Sca w b hi lo s) (hs:s<64) (hx1:9223372036854775808≤x) (hx:x<18446744073709551616) (hh1:9223372036854775808≤hi) (hh:hi<18446744073709551616) (hl:lo<18446744073709551616) :
  Calls Tryz.prog 232 #[.int .u64 x,.pointer (some ⟨b,0,none⟩)] w fun e w'=>e = .returned (.int .u64 (qpI x hi lo s:Nat))∧∃ n,w'=w.drewN n:=by
 have hHlt:x*hi/18446744073709551616<18446744073709551616:=by
  rw[Nat.div_lt_iff_lt_mul zxd]
  exact Nat.lt_of_lt_of_le (Nat.mul_lt_mul_of_pos_right hx zxo) (Nat.mul_le_mul_left _ (Nat.le_of_lt hh))
 have hH1:1≤x*hi/18446744073709551616:=by
  rw[Nat.le_div_iff_mul_le zxd]
  have:9223372036854775808*9223372036854775808≤x*hi:=Nat.mul_le_mul hx1 hh1
  omega
 have hMlt:x*hi%18446744073709551616<18446744073709551616:=Nat.mod_lt _ zxd
 have hM2lt:x*lo/18446744073709551616<18446744073709551616:=by
  rw[Nat.div_lt_iff_lt_mul zxd]
  exact Nat.lt_of_le_of_lt (Nat.mul_le_mul (Nat.le_of_lt hx) (Nat.le_refl lo)) ((Nat.mul_lt_mul_left zxd).2 hl)
 have m1:=fun w=>Tryz.bits_Mul64 x hi hx hh w
 have m2:=fun w=>Tryz.bits_Mul64 x lo hx hl w
 unfold qpI
 by_cases hb:x*hi/18446744073709551616%2^s≠0
 · rw[if_pos hb]
   refine(qlO x hi lo s b _ _ _ _ _ w h hs hHlt m1 rfl rfl ?_ rfl).mono fun e w' ⟨h1,h2⟩=>⟨h1,0,h2.symm⟩
   intro e
   have:=Nat.div_add_mod (x*hi/18446744073709551616) (2^s)
   rw[Nat.mul_comm,e] at this
   omega
 · rw[if_neg hb]
   have hA2:x*hi/18446744073709551616/2^s*2^s=x*hi/18446744073709551616:=by
    have:=Nat.div_add_mod (x*hi/18446744073709551616) (2^s)
    rw[Nat.mul_comm] at this
    omega
   by_cases hle:x*lo/18446744073709551616≤x*hi%18446744073709551616
   · rw[if_pos hle]
     exact qf0 x hi lo s b _ _ _ _ _ _ _ (x*hi%18446744073709551616-x*lo/18446744073709551616) _ false _ w h hs hHlt m1 m2 rfl hA2 (decide_eq_false zxo) zxs rfl
      (by rw[show((x*hi%18446744073709551616:Nat):Int)-((x*lo/18446744073709551616:Nat):Int)=((x*hi%18446744073709551616-x*lo/18446744073709551616:Nat):Int) by omega];exact QJ _ zxo) rfl rfl
   · rw[if_neg hle]
     exact qf0 x hi lo s b _ _ _ _ _ (x*hi/18446744073709551616-1) _ (x*hi%18446744073709551616+18446744073709551616-x*lo/18446744073709551616) _ true true w h hs hHlt m1 m2 rfl hA2 (decide_eq_true zxo) (by show _-((1:Nat):Int)=_;omega) rfl
      (by
       generalize x*hi%18446744073709551616=a at *
       generalize x*lo/18446744073709551616=c at *
       have e:(a:Int)-(c:Int)=((a+18446744073709551616-c:Nat):Int)-18446744073709551616:=by omega
       rw[e]
       simp only[IntKind.wrap,IntKind.bits,IntKind.signed];simp;omega)
      (decide_eq_true (by
       have hm2:x*lo/18446744073709551616≤18446744073709551614:=by
        exact qqL
       generalize x*hi%18446744073709551616=a at *
       generalize x*lo/18446744073709551616=c at *
       omega)) rfl
theorem Qi (n:Nat) (w:World):(callFunc 222 #[.int .u64 n]).run Tryz.prog w = .ok (.value (.float .f64 n)) w:=by
 rw[run_callFunc_extern Tryz.func222 (by kernel_rfl) (by kernel_rfl) (by kernel_rfl) (e:=Extern.MathFloatBits.float64frombits) (by kernel_rfl)]
 rfl
theorem qfI (p:Int) (h0 : -1000≤p) (h1:p≤1000) (w:World):Calls Tryz.prog 230 #[.int .i64 p] w fun e w'=>e = .returned (.int .i64 (lpw p))∧w=w':=by
 go_enter Tryz.func230,Tryz.ntmps230
 go_wp2_with fail
 go_ret
 exact⟨jB (by unfold lpw;first | rfl | omega),rfl⟩
theorem qhk (w:World):Calls Tryz.prog 234 #[.int .u64 9007199254740992] w fun e w'=>e = .returned (.int .u64 36028797018963966)∧w=w':=by
 go_enter Tryz.func234,Tryz.ntmps234
 exact qdi
theorem qhC (u:Nat) (hu:u<9223372036854775808) (w:World):Calls Tryz.prog 236 #[.int .u64 u] w fun e w'=>e = .returned (.int .u64 ((u+1+u/4%2)/4:Nat))∧w=w':=by
 obtain⟨q,hq⟩:∃ q,u/4=q:=⟨_,rfl⟩
 obtain⟨r,hr⟩:∃ r,q%2=r:=⟨_,rfl⟩
 have e1:(u:Int)/4=(q:Int):=by omega
 have e2:bits BinOp.and IntKind.u64 (q:Int) 1=(r:Int):=by
  have:=J0 q 1 zxo zxd
  rw[show((1:Nat):Int)=1 from rfl] at this
  rw[this,Nat.and_one_is_mod,hr]
 rw[hq,hr]
 have hr2:r<2:=by omega
 clear hr
 go_enter Tryz.func236,Tryz.ntmps236
 go_wp2_with fail
 go_ret
 exact⟨jB zxo,rfl⟩
def qbf (m:Nat) (e:Int):Nat×Bool:=if m<4503599627370496 then (m,false) else if 972≤e then (9218868437227405312,true) else (m-4503599627370496+(1075+e).toNat*4503599627370496,false)
def Q6 (b:Bool):Value:=if b then .iface 200 (.int .i64 1) else .nilIface
theorem qiF (n i:Nat):n &&& 2^i=if n.testBit i then 2^i else 0:=by
 exact qtb
theorem qjn (m:Nat) (hm:m<9007199254740992):m &&& 4503599627370496=if m<4503599627370496 then 0 else 4503599627370496:=by
 have h:=qiF m 52
 exact qsf
theorem qgI (m:Nat) (hm:m<9007199254740992) (h52:4503599627370496≤m):bits BinOp.andNot IntKind.u64 (m:Int) 4503599627370496=((m-4503599627370496:Nat):Int):=by
 show IntKind.u64.wrap (((BitVec.ofInt 64 (m:Int) &&& ~~~ (BitVec.ofInt 64 4503599627370496)).toNat:Nat):Int)=_
 have e1:(~~~ (BitVec.ofInt 64 4503599627370496)).toNat=18442240474082181119:=by decide
 rw[BitVec.toNat_and,e1,BitVec.ofInt_natCast,BitVec.toNat_ofNat,Nat.mod_eq_of_lt zxo]
 have e2:m &&& 18442240474082181119=m-4503599627370496:=by
  have h1:m &&& 18442240474082181119≤m:=Nat.and_le_left
  have h2:=Nat.and_mod_two_pow (a:=m) (b:=18442240474082181119) (n:=53)
  rw[show(2:Nat)^53=9007199254740992 by decide] at h2
  rw[Nat.mod_eq_of_lt zxo,Nat.mod_eq_of_lt hm,show(18442240474082181119:Nat)%9007199254740992=2^52-1 by decide,Nat.and_two_pow_sub_one_eq_mod] at h2
  rw[h2,show(2:Nat)^52=4503599627370496 by decide]
  omega
 rw[e2]
 exact QJ _ zxo
theorem qrA (m:Nat) (e:Int) (hm:m<4503599627370496) (w:World):Calls Tryz.prog 239 #[.int .u64 m,.int .i64 e] w fun r w'=>r = .returned (.tuple #[.float .f64 m,.nilIface])∧w=w':=by
 have e1:bits BinOp.and IntKind.u64 (m:Int) 4503599627370496=0:=by
  have:=J0 m 4503599627370496 zxo zxd
  rw[qjn m zxo,if_pos hm] at this
  exact this
 have hq:=Qi m
 clear hm
 exact qmV
theorem qrM (m:Nat) (e:Int) (h52:4503599627370496≤m) (hm:m<9007199254740992) (he:972≤e) (w:World) :
  Calls Tryz.prog 239 #[.int .u64 m,.int .i64 e] w fun r w'=>r = .returned (.tuple #[.float .f64 9218868437227405312,.iface 200 (.int .i64 1)])∧w=w':=by
 have e1:bits BinOp.and IntKind.u64 (m:Int) 4503599627370496=4503599627370496:=by
  exact qpX
 have e2:bits BinOp.and IntKind.u64 (m:Int) 9223372036854775808=0:=by
  have:=J0 m 9223372036854775808 zxo zxd
  have h:=qiF m 63
  rw[Nat.testBit_eq_decide_div_mod_eq,show(2:Nat)^63=9223372036854775808 by decide,decide_eq_false zxo] at h
  rw[h] at this
  exact this
 have e3:bits BinOp.or IntKind.u64 0 9218868437227405312=9218868437227405312:=by decide
 have hq:∀ w:World,(callFunc 222 #[.int .u64 9218868437227405312]).run Tryz.prog w = .ok (.value (.float .f64 9218868437227405312)) w:=Qi 9218868437227405312
 clear hm h52
 exact qmV
theorem qtn (m r E O R:Nat) (e:Int) (h52:4503599627370496≤m) (hm:m<9007199254740992) (he:¬ 972≤e) (he0 : -1075≤e) (hr:m-4503599627370496=r) (hE:1075+e=(E:Int)) (hO:E*4503599627370496=O) (hR:r+O=R) (w:World) :
  Calls Tryz.prog 239 #[.int .u64 m,.int .i64 e] w fun r w'=>r = .returned (.tuple #[.float .f64 R,.nilIface])∧w=w':=by
 have e1:bits BinOp.and IntKind.u64 (m:Int) 4503599627370496=4503599627370496:=by
  exact qpX
 have e2:=qgI m hm h52
 rw[hr] at e2
 have hE2:E≤2046:=by omega
 have e3:IntKind.u64.wrap ((E:Int)*4503599627370496)=(O:Int):=qn2 hE2 hO
 have e4:bits BinOp.or IntKind.u64 (r:Int) (O:Int)=(R:Int):=by
  have h:=qa4 r O zxo zxo
  have h2:=Nat.shiftLeft_add_eq_or_of_lt (i:=52) (b:=r) (by rw[show(2:Nat)^52=4503599627370496 by decide];omega) E
  rw[Nat.shiftLeft_eq,show(2:Nat)^52=4503599627370496 by decide,hO] at h2
  rw[h,Nat.or_comm,← h2,Nat.add_comm,hR]
 have hq:=Qi R
 clear hm h52 hr hO hR
 exact qmV
theorem qln (m:Nat) (e:Int) (hm:m<9007199254740992) (he0 : -1075≤e) (w:World) :
  Calls Tryz.prog 239 #[.int .u64 m,.int .i64 e] w fun r w'=>r = .returned (.tuple #[.float .f64 (qbf m e).1,Q6 (qbf m e).2])∧w=w':=by
 unfold qbf
 by_cases h:m<4503599627370496
 · rw[if_pos h];exact qrA m e h w
 · rw[if_neg h]
   by_cases h2:972≤e
   · rw[if_pos h2];exact qrM m e zxo hm h2 w
   · rw[if_neg h2];exact qtn m _ (1075+e).toNat _ _ e zxo hm h2 he0 rfl zxo rfl rfl w
theorem qea (b i hi lo:Nat) (e p lp s:Int) (u0 u1 u2:Value) (w:World) (hp:p+348=(i:Int)) (hi2:i<696) (hs : -(e+lp+3)=s) (he : -100000≤e) (he2:e≤100000) (hl : -100000≤lp) (hl2:lp≤100000) (hb:¬ b=13)
  (h0:w.cell? ⟨b,0,none⟩=some u0) (h1:w.cell? ⟨b,1,none⟩=some u1) (h2:w.cell? ⟨b,2,none⟩=some u2) (f0:w.frozen? ⟨b,0,none⟩=false) (f1:w.frozen? ⟨b,1,none⟩=false) (f2:w.frozen? ⟨b,2,none⟩=false)
  (t0:w.cell? ⟨13,2*i,none⟩=some (.int .u64 hi)) (t1:w.cell? ⟨13,2*i+1,none⟩=some (.int .u64 lo)) :
  Calls Tryz.prog 231 #[.pointer (some ⟨b,0,none⟩),.int .i64 e,.int .i64 p,.int .i64 lp] w fun r w'=>r = .returned (.tuple #[])∧w'=((w.setCell ⟨b,0,none⟩ (.int .u64 hi)).setCell ⟨b,1,none⟩ (.int .u64 lo)).setCell ⟨b,2,none⟩ (.int .i64 s):=by
 have hp2:p-(-348)=(i:Int):=by omega
 have hpl:p≤347:=by omega
 have hpl0 : -348≤p:=by omega
 have k0:(0:Int)≤(i:Int):=by omega
 have k1:(i:Int)<696:=by omega
 have t0':w.cell? ⟨13,i*2,none⟩=some (.int .u64 hi):=by rw[Nat.mul_comm];exact t0
 have t1':w.cell? ⟨13,i*2+1,none⟩=some (.int .u64 lo):=by rw[Nat.mul_comm];exact t1
 have HP:=zxi hp
 clear hp
 go_enter Tryz.func231,Tryz.ntmps231
 go_wp2_with fail
 go_end0
 exact⟨rfl,rfl⟩
def qsl (w:World):Prop:=∀ i x,Go.Pinned.pow10Rows[i]?=some x→w.cell? ⟨13,2*i,none⟩=some (.int .u64 (x.1:Nat))∧w.cell? ⟨13,2*i+1,none⟩=some (.int .u64 (x.2:Nat))
def pfT (u:Nat):Bool:=decide (36028797018963966≤u)
theorem qaw {w:World} {b o:Nat} {v:Value} (h:w.cell? ⟨b,o,none⟩=some v):b<w.heap.size:=by
 rcases Nat.lt_or_ge b w.heap.size with h' | h'
 · exact h'
 · unfold World.cell? at h
   simp only[Array.getElem?_eq_none h'] at h
   cases h
structure Sc3 (w0 w:World) (hi lo:Nat) (s:Int):Prop where
 hi:w.cell? ⟨w0.heap.size,0,none⟩=some (.int .u64 hi)
 lo:w.cell? ⟨w0.heap.size,1,none⟩=some (.int .u64 lo)
 s:w.cell? ⟨w0.heap.size,2,none⟩=some (.int .i64 s)
 below:Below w0.heap.size w0 w
theorem qaO (i hi lo:Nat) (e p lp s:Int) (w:World) (hp:p+348=(i:Int)) (hi2:i<696) (hs : -(e+lp+3)=s) (he : -100000≤e) (he2:e≤100000) (hl : -100000≤lp) (hl2:lp≤100000)
  (t0:w.cell? ⟨13,2*i,none⟩=some (.int .u64 hi)) (t1:w.cell? ⟨13,2*i+1,none⟩=some (.int .u64 lo)) :
  Calls Tryz.prog 231 #[.pointer (some ⟨w.heap.size,0,none⟩),.int .i64 e,.int .i64 p,.int .i64 lp] (w.alloc (.cells #[.int .u64 0,.int .u64 0,.int .i64 0] 253)) fun r w'=>r = .returned (.tuple #[])∧Sc3 w w' hi lo s:=by
 have h13:=qaw t0
 have c0:(w.alloc (.cells #[.int .u64 0,.int .u64 0,.int .i64 0] 253)).cell? ⟨w.heap.size,0,none⟩=some (.int .u64 0):=by rw[World.cell?_alloc_at _ _ _ _ rfl];rfl
 have c1:(w.alloc (.cells #[.int .u64 0,.int .u64 0,.int .i64 0] 253)).cell? ⟨w.heap.size,1,none⟩=some (.int .u64 0):=by rw[World.cell?_alloc_at _ _ _ _ rfl];rfl
 have c2:(w.alloc (.cells #[.int .u64 0,.int .u64 0,.int .i64 0] 253)).cell? ⟨w.heap.size,2,none⟩=some (.int .i64 0):=by rw[World.cell?_alloc_at _ _ _ _ rfl];rfl
 refine(qea w.heap.size i hi lo e p lp s _ _ _ _ hp hi2 hs he he2 hl hl2 zxo c0 c1 c2 (World.frozen?_alloc_at _ _ _ _ rfl) (World.frozen?_alloc_at _ _ _ _ rfl) (World.frozen?_alloc_at _ _ _ _ rfl)
  (by rw[World.cell?_alloc_past _ _ _ h13];exact t0) (by rw[World.cell?_alloc_past _ _ _ h13];exact t1)).mono fun r w' hw=>?_
 obtain⟨hr,rfl⟩:=hw
 have n01:(⟨w.heap.size,0,none⟩:Addr)≠⟨w.heap.size,1,none⟩:=by simp
 have n02:(⟨w.heap.size,0,none⟩:Addr)≠⟨w.heap.size,2,none⟩:=by simp
 have n12:(⟨w.heap.size,1,none⟩:Addr)≠⟨w.heap.size,2,none⟩:=by simp
 have a0:=World.cell?_setCell_same _ _ (.int .u64 hi) c0
 have a1:=World.cell?_setCell_same _ _ (.int .u64 lo) ((World.cell?_setCell_other _ _ _ (.int .u64 hi) n01).trans c1)
 refine⟨hr,?_,?_,?_,?_⟩
 · rw[World.cell?_setCell_other _ _ _ _ n02.symm,World.cell?_setCell_other _ _ _ _ n01.symm];exact a0
 · rw[World.cell?_setCell_other _ _ _ _ n12.symm];exact a1
 · exact World.cell?_setCell_same _ _ _ ((World.cell?_setCell_other _ _ _ _ n12).trans ((World.cell?_setCell_other _ _ _ _ n02).trans c2))
 · exact((((Below.refl _ w).alloc zxn _).setCell zxn _).setCell zxn _).setCell zxn _
theorem qlg (d n hi lo i:Nat) (p e s lp:Int) (w:World) (hd:(d:Int)≤18446744073709551615) (hn:Lib.bitLen d=n) (hn64:n≤64) (hlp:lpw p=lp) (hlp0 : -1200≤lp) (hlp1:lp≤1200) (he:min 1074 (53-(n:Int)-lp)=e) (hs : -(e-(64-(n:Int))+lp+3)=s)
  (hp0 : -345≤p) (hp1:p≤310) (hp:p+348=(i:Int)) (hs64:64≤s)
  (t0:w.cell? ⟨13,2*i,none⟩=some (.int .u64 hi)) (t1:w.cell? ⟨13,2*i+1,none⟩=some (.int .u64 lo)) :
  Calls Tryz.prog 224 #[.int .u64 d,.int .i64 p,.int .u64 0] w fun r w'=>r = .returned (.tuple #[.float .f64 0,.nilIface])∧Below w.heap.size w w':=by
 have HL:=zxi (fun w=>Tryz.bits_Len64 d w zxo hd)
 have HG:=zxi (fun w=>qfI p zxo zxo w)
 rw[hlp] at HG
 have he0 : -1300≤e:=by omega
 have he1:e≤1074:=by omega
 have HP:=zxi (qaO i hi lo (e-(64-(n:Int))) p lp s w hp zxo hs zxo zxo zxo zxo t0 t1)
 have HNN:=zxi hn
 clear hn hlp t0 t1
 go_enter Tryz.func224,Tryz.ntmps224
 go_wp2_with (first | (go_at_call 229;refine(HL.out _).mono ?_;rintro r wx ⟨rfl,rfl⟩;rw[show((d:Int)).toNat=d from rfl,HNN.out]) | (go_at_call 230;refine(HG.out _).mono ?_;rintro r wx ⟨rfl,rfl⟩))
 refine HP.out.mono ?_
 rintro r w2 ⟨rfl,k0,k1,k2,hb2⟩
 have HB2:=zxi hb2
 have hq:∀ w:World,(callFunc 222 #[.int .u64 0]).run Tryz.prog w = .ok (.value (.float .f64 0)) w:=Qi 0
 have hor:bits BinOp.or IntKind.u64 0 0=0:=by decide
 clear hb2
 go_wp2_with fail
 go_ret2
 exact⟨rfl,HB2.out⟩
theorem qcY (d:Nat) (h1:1≤d) (h2:d<18446744073709551616):1≤Lib.bitLen d∧Lib.bitLen d≤64∧2^(Lib.bitLen d-1)≤d∧d<2^Lib.bitLen d:=by
 have hk:2^d.log2≤d:=Nat.log2_self_le zxo
 have hk2:d<2^(d.log2+1):=Nat.lt_log2_self
 have e:=Lib.bitLen_shift d.log2 d hk (by simpa using h2)
 have hq:d/2^d.log2=1:=by
  rw[Nat.div_eq_iff (Nat.two_pow_pos _)]
  rw[Nat.pow_succ] at hk2
  omega
 rw[hq,show Lib.bitLen 1=1 by decide] at e
 have hl:d.log2<64:=by
  rcases Nat.lt_or_ge d.log2 64 with h | h
  · exact h
  · have:2^64≤2^d.log2:=Nat.pow_le_pow_right zxd h
    omega
 rw[e]
 exact⟨by omega,by omega,by simpa using hk,hk2⟩
theorem qi0 (b:Bool) (w:World):Calls Tryz.prog 233 #[.bool b] w fun e w'=>e = .returned (.int .i64 (b.toNat:Nat))∧w'=w :=
 (Tryz.internal_strconv_bool2_int b w).mono fun e w' ⟨h1,h2⟩=>⟨by rw[h1];cases b<;>rfl,h2⟩
theorem qmU (d n k hi lo i X u q r V m K:Nat) (t:Bool) (p e s lp ep:Int) (err:Bool) (w:World) (hd:(d:Int)≤18446744073709551615) (hn:Lib.bitLen d=n) (hn64:n≤64) (hlp:lpw p=lp) (hlp0 : -1200≤lp) (hlp1:lp≤1200) (he:min 1074 (53-(n:Int)-lp)=e) (hs : -(e-(k:Int)+lp+3)=s)
  (hp0 : -345≤p) (hp1:p≤310) (hp:p+348=(i:Int)) (hs64:¬ 64≤s) (hs0:0≤s)
  (hk:64-(n:Int)=(k:Int)) (hX:d*2^k=X) (hX1:9223372036854775808≤X) (hX2:X<18446744073709551616) (hh1:9223372036854775808≤hi) (hh:hi<18446744073709551616) (hl:lo<18446744073709551616)
  (hu:qpI X hi lo s.toNat=u) (hu2:u<144115188075855872) (ht:pfT u=t) (hq:u/2^t.toNat=q) (hr:u%2=r) (hV:q ||| r=V) (hm:(V+1+V/4%2)/4=m) (hm2:m<9007199254740992) (hep:e-(t.toNat:Nat)=ep) (hpk:qbf m (-ep)=(K,err))
  (t0:w.cell? ⟨13,2*i,none⟩=some (.int .u64 hi)) (t1:w.cell? ⟨13,2*i+1,none⟩=some (.int .u64 lo)) :
  Calls Tryz.prog 224 #[.int .u64 d,.int .i64 p,.int .u64 0] w fun r w'=>r = .returned (.tuple #[.float .f64 K,Q6 err])∧Below w.heap.size w w':=by
 have HL:=zxi (fun w=>Tryz.bits_Len64 d w zxo hd)
 have HG:=zxi (fun w=>qfI p zxo zxo w)
 rw[hlp] at HG
 have he0 : -1300≤e:=by omega
 have he1:e≤1074:=by omega
 have HP:=zxi (qaO i hi lo (e-(k:Int)) p lp s w hp zxo hs zxo zxo zxo zxo t0 t1)
 obtain⟨σ,hσ⟩:∃ σ:Nat,s=(σ:Int):=⟨s.toNat,by omega⟩
 subst hσ
 have hσ64:σ<64:=by omega
 have hsh:IntKind.u64.wrap ((d:Int)*2^k)=(X:Int):=by
  rw[show(d:Int)*2^k=(X:Int) by rw[← hX];push_cast;rfl];exact QJ _ hX2
 have HU:=zxi (fun(w2:World) (c:Sca w2 w.heap.size hi lo σ)=>qf1 X hi lo σ w.heap.size w2 c hσ64 hX1 hX2 hh1 hh hl)
 rw[show qpI X hi lo σ=u from hu] at HU
 have hqd:(u:Int)/2^t.toNat=(q:Int):=by rw[← hq];push_cast;rfl
 have hand:bits BinOp.and IntKind.u64 (u:Int) 1=(r:Int):=by
  have:=J0 u 1 zxo zxd
  rw[show((1:Nat):Int)=1 from rfl] at this
  rw[this,Nat.and_one_is_mod,hr]
 have hqu:q≤u:=by rw[← hq];exact Nat.div_le_self _ _
 have hor:bits BinOp.or IntKind.u64 (q:Int) (r:Int)=(V:Int):=by rw[← hV];exact qa4 q r zxo zxo
 have hVlt:V<9223372036854775808:=by
  rw[← hV]
  have e63:(2:Nat)^63=9223372036854775808:=by decide
  have h1:q ||| r<2^63:=Nat.or_lt_two_pow zxo zxo
  omega
 have HR:=zxi (fun w=>qhC V hVlt w)
 rw[hm] at HR
 have hor0:bits BinOp.or IntKind.u64 0 (m:Int)=(m:Int):=by
  have:=qa4 0 m zxd zxo
  rw[Nat.zero_or] at this
  exact this
 have htn1:t.toNat≤1:=by cases t<;>decide
 have HK:=zxi (fun w=>qln m (-ep) hm2 zxo w)
 rw[hpk] at HK
 have HB:=zxi (qi0 t)
 have ht2:decide ((u:Int)≥36028797018963966)=t:=by rw[← ht];unfold pfT;rw[decide_eq_decide];omega
 have ht3:decide ((36028797018963966:Int)≤(u:Int))=t:=ht2
 have ht4:decide (36028797018963966≤u)=t:=ht
 have htn:¬ ((t.toNat:Nat):Int)<0:=by omega
 have HNN:=zxi hn
 clear hn hlp t0 t1 hX hu hq hr hV hm hpk hh1 hh hl ht hX1 hX2
 go_enter Tryz.func224,Tryz.ntmps224
 go_wp2_with (first | (go_at_call 229;refine(HL.out _).mono ?_;rintro r wx ⟨rfl,rfl⟩;rw[show((d:Int)).toNat=d from rfl,HNN.out]) | (go_at_call 230;refine(HG.out _).mono ?_;rintro r wx ⟨rfl,rfl⟩))
 refine HP.out.mono ?_
 rintro r w2 ⟨rfl,k0,k1,k2,hb2⟩
 have HB2:=zxi hb2
 have HC:=zxi (HU.out w2 ⟨k0,k1,k2⟩)
 clear hb2
 go_wp2_with fail
 refine HC.out.mono ?_
 rintro r w3 ⟨rfl,n3,rfl⟩
 go_wp2_with (first | (go_at_call 234;refine(qhk _).mono ?_;rintro r wx ⟨rfl,rfl⟩) | (go_at_call 233;refine(HB.out _).mono ?_;rintro r wx ⟨rfl,rfl⟩) | (go_at_call 236;refine(HR.out _).mono ?_;rintro r wx ⟨rfl,rfl⟩) | (go_at_call 239;refine(HK.out _).mono ?_;rintro r wx ⟨rfl,rfl⟩))
 go_ret2
 exact⟨rfl,⟨HB2.out.os,HB2.out.tape,HB2.out.output,HB2.out.size,HB2.out.block⟩⟩
end Go.Proofs.YtacdfjlncfidgaaGreatDoor
