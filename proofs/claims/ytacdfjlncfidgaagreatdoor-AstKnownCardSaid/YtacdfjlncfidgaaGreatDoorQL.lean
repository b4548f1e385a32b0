/- A part of what the claim leans on. -/
import Derived.Test.YtacdfjlncfidgaaGreatDoorQS
import Derived.Test.YtacdfjlncfidgaaGreatDoorQK
import Derived.LaidLaws
namespace Go.Proofs.YtacdfjlncfidgaaGreatDoor
open Go.RowKit
set_option linter.unusedVariables false
set_option linter.unusedSimpArgs false
set_option maxRecDepth 1000000
set_option maxHeartbeats 1600000
section
open Go.RowKit Go.Lib
def powDs:List (DataW Unit):=match (Rows.laid_internal_strconv_float64pow10:DataW Unit) with | .slice l _=>l | _=>[]
def qwQ (w:World):Prop:=∃ pb po c,w.cell? ⟨12,0,none⟩=some (.slice (some ⟨pb,po,none⟩) 23 c)∧∀ i b,powDs[i]?=some (.lit (.float .f64 b))→w.cell? ⟨pb,po+i,none⟩=some (.float .f64 b)
theorem qnf {w:World} (hlen:powDs.length=23) (h:VarReads Tryz.prog w "internal/strconv.float64pow10" (.slice powDs [])):qwQ w:=by
 obtain⟨g,t,cs,fuel,p,hg,hty,hvar,hd⟩:=h
 obtain rfl:=Option.some.inj ((show Tryz.prog.globalNamed "internal/strconv.float64pow10" = some 12 by kernel_rfl).symm.trans hg)
 obtain rfl:=Option.some.inj ((show(Tryz.prog.globals[12]?).map (·.type)=some 264 by kernel_rfl).symm.trans hty)
 rcases DataW.trod_slice Tryz.underlying264 hd with⟨_,hx⟩ | ⟨a,len,cap,el,rs,m,rfl,hcs,hx,_,hlc,_,hel,helem,_,_⟩
 · cases hx
 · have e0:=congrArg Prod.fst hx
   simp only[DataW.slice.injEq] at e0
   obtain⟨eE,_⟩:=e0
   have hl:len=23:=by
    exact qpp
   subst hl
   have h10:w.cell? ⟨12,0,none⟩=some (.slice (some a) 23 cap):=by
    exact qrE
   have hi0:=helem 0 zxo
   rw[show Tryz.prog.cellsOf 171=1 by kernel_rfl] at hi0
   obtain⟨b0,hb0⟩:∃ b,el[0]?=some b:=⟨el[0]'zxo,List.getElem?_eq_getElem zxo⟩
   rw[hb0] at hi0
   obtain⟨c0,hc0,ht0⟩:=Option.bind_eq_some_iff.1 hi0
   obtain⟨_,hcl0,hat0⟩:=World.cells?_some hc0
   have hs0:=hat0 0 zxo
   obtain⟨u0,hu0⟩:∃ u,c0[0]?=some u:=⟨c0[0]'zxo,List.getElem?_eq_getElem zxo⟩
   rw[hu0] at hs0
   have hspot:a.spot=none:=World.cell?_spot (by simpa[Addr.add] using hs0)
   obtain⟨pb,po,spot⟩:=a
   dsimp only at hspot
   subst hspot
   refine⟨pb,po,cap,h10,fun i bt hbt=>?_⟩
   have hi23:i<23:=by
    rw[← hlen]
    rcases Nat.lt_or_ge i powDs.length with h' | h'
    · exact h'
    · rw[List.getElem?_eq_none h'] at hbt;cases hbt
   have hi:=helem i hi23
   rw[show Tryz.prog.cellsOf 171=1 by kernel_rfl] at hi
   obtain⟨b,hb⟩:∃ b,el[i]?=some b:=⟨el[i]'zxo,List.getElem?_eq_getElem zxo⟩
   have hb1:b.1 = .lit (.float .f64 bt):=by
    have:=congrArg (fun l=>l[i]?) eE
    simp only[List.getElem?_map,hb,hbt] at this
    simpa using this.symm
   rw[hb] at hi
   obtain⟨c1,hc1,ht1⟩:=Option.bind_eq_some_iff.1 hi
   obtain⟨_,hcl,hat⟩:=World.cells?_some hc1
   cases m with
   | zero=>simp[DataW.trod] at ht1
   | succ m =>
    unfold DataW.trod at ht1
    simp only[Tryz.underlying171] at ht1
    match c1,hcl,ht1 with
    | [v],_,ht1 =>
     cases v with
     | float k bts =>
      have hv:k = .f64∧bts=bt:=by
       exact qpR
      obtain⟨rfl,rfl⟩:=hv
      have hcc:=hat 0 zxs
      by_cases hi0':i=0
      · subst hi0';simpa[Addr.add] using hcc
      · simpa[Addr.add,hi0'] using hcc
     | _=>simp at ht1
def qw7 (w:World):Prop:=∃ ev:Value,w.cell? ⟨6,0,none⟩=some ev∧(ev = .nilIface∨∃ te pe,ev = .iface te pe)
theorem qm5 {w:World} (h:VarReads Tryz.prog w "strconv.ErrRange" Rows.laid_strconv_ErrRange):qw7 w:=by
 obtain⟨g,t,cs,fuel,p,hg,hty,hvar,hd⟩:=h
 obtain rfl:=Option.some.inj ((show Tryz.prog.globalNamed "strconv.ErrRange" = some 6 by kernel_rfl).symm.trans hg)
 obtain rfl:=Option.some.inj ((show(Tryz.prog.globals[6]?).map (·.type)=some 185 by kernel_rfl).symm.trans hty)
 obtain⟨_,u,v,hcs,_,_⟩:=iface_of_trod Tryz.underlying185 hd
 have hsz:0<cs.size:=by rw[← Array.length_toList,hcs];simp
 refine⟨.iface u v,?_,.inr ⟨u,v,rfl⟩⟩
 rw[Qc (by kernel_rfl) hvar 0 hsz]
 have:cs=#[.iface u v]:=by rw[← Array.toList_inj];exact hcs
 subst this
 rfl
structure Glob2 (w:World):Prop where
 glob:Glob w
 powf:qwQ w
 tab:qsl w
 err:qw7 w
theorem Glob2.below {w w':World} (h:Glob2 w) (hb:Below w.heap.size w w'):Glob2 w':=by
 refine⟨h.glob.below hb,?_,?_,?_⟩
 · obtain⟨pb,po,c,h1,h2⟩:=h.powf
   exact⟨pb,po,c,Below.at_ hb h1,fun i b hi=>Below.at_ hb (h2 i b hi)⟩
 · exact fun i x hx=>⟨Below.at_ hb (h.tab i x hx).1,Below.at_ hb (h.tab i x hx).2⟩
 · obtain⟨ev,h1,h2⟩:=h.err
   exact⟨ev,Below.at_ hb h1,h2⟩
theorem qkR {w:World} (hsh:w.ShapedOpen Tryz.prog) (hL:laidMet Tryz.prog Rows.astChecksRow.laid w):Glob2 w where
 glob:=qn8 hsh hL
 powf:=qnf (by decide +kernel) (by
  have:=Lib.laidMet.reads (n := "internal/strconv.float64pow10") (d:=(Rows.laid_internal_strconv_float64pow10:DataW Unit)) hL (by simp[Rows.astChecksRow])
  exact this)
 tab:=fun i x hx=>qh3 (Lib.laidMet.reads hL (by simp[Rows.astChecksRow,Rows.laid_internal_strconv_pow10Tab])) i x hx (by decide +kernel)
 err:=qm5 (Lib.laidMet.reads hL (by simp[Rows.astChecksRow]))
end
structure Dg (s:ByteArray):Prop where
 pos:0<s.size
 most:s.size≤60
 dig:qf (s[0]'pos)=true
theorem jJ (s:ByteArray) (h:Dg s) (w:World):Calls Tryz.prog 212 #[.string s] w fun e w'=>e = .returned (.tuple #[.float .f64 0,.int .i64 0,.bool false])∧w=w':=by
 obtain⟨hp,hm,hd⟩:=h
 have hne:¬ s=ByteArray.empty:=by rintro rfl;simp at hp
 obtain⟨c,hc⟩:∃ c,(s[0]'hp)=c:=⟨_,rfl⟩
 rw[hc] at hd
 have h1:48≤c.toNat∧c.toNat≤57:=by simpa[qf] using hd
 have k1:((c.toNat:Int) == 43)=false:=by simp;omega
 have k2:((c.toNat:Int) == 45)=false:=by simp;omega
 have k3:((c.toNat:Int) == 105)=false:=by simp;omega
 have k4:((c.toNat:Int) == 73)=false:=by simp;omega
 have k5:((c.toNat:Int) == 110)=false:=by simp;omega
 have k6:((c.toNat:Int) == 78)=false:=by simp;omega
 have hsz:¬ (s.size:Int)=0:=by omega
 have hsz2:((s.size:Int) == 0)=false:=by simpa using hsz
 clear hd h1
 go_enter Tryz.func212,Tryz.ntmps212
 go_wp2_with fail
 exact bodyPost_ret (v:=.tuple #[.float .f64 0,.int .i64 0,.bool false]) (by simp[results,Tryz.results134,go_sem]) rfl ⟨rfl,rfl⟩
def RDs (s:ByteArray) (d:Nat) (p:Int):Prop:=Dg s∧∀ w,Calls Tryz.prog 213 #[.string s] w fun e w'=>e = .returned (.tuple #[.int .u64 d,.int .i64 p,.bool false,.bool false,.bool false,.int .i64 s.size,.bool true])∧w=w'
def AT (s:ByteArray) (f:Nat) (b:Bool):Prop:=∀ w,Glob2 w→Calls Tryz.prog 210 #[.string s] w fun e w'=>e = .returned (.tuple #[.float .f64 f,.int .i64 s.size,Q6 b])∧Below w.heap.size w w'
theorem qjF (s:ByteArray) (p:Int) (h:RDs s 0 p):AT s 0 false:=by
 intro w hG
 have h6:=hG.glob.knows.ways
 have HS:=zxi (fun w=>jJ s h.1 w)
 have HR:=zxi h.2
 have hq:∀ w:World,(callFunc 222 #[.int .u64 0]).run Tryz.prog w = .ok (.value (.float .f64 0)) w:=Qi 0
 have hor:bits BinOp.or IntKind.u64 0 0=0:=by decide
 clear hG h
 exact qsu
def EX (d:Nat) (p:Int) (g:Nat) (ok:Bool):Prop:=∀ w,Glob2 w→Calls Tryz.prog 223 #[.int .u64 d,.int .i64 p,.bool false] w fun e w'=>e = .returned (.tuple #[.float .f64 g,.bool ok])∧Below w.heap.size w w'
theorem qgQ (s:ByteArray) (d:Nat) (p:Int) (f:Nat) (h:RDs s d p) (hd:d≠0) (hp:¬ p < -345) (hp2:¬ 310<p) (hx:EX d p f true):AT s f false:=by
 intro w hG
 have h6:=hG.glob.knows.ways
 have HS:=zxi (fun w=>jJ s h.1 w)
 have HR:=zxi h.2
 have HX:=zxi (hx w hG)
 have hd2:((d:Int) == 0)=false:=by simpa using hd
 clear hG h hd hx
 go_enter Tryz.func210,Tryz.ntmps210
 go_wp2_with (first | (go_at_call 212;refine(HS.out _).mono ?_;rintro e w' ⟨rfl,rfl⟩) | (go_at_call 213;refine(HR.out _).mono ?_;rintro e w' ⟨rfl,rfl⟩) | (go_at_call 221;refine(j6 _).mono ?_;rintro e w' ⟨rfl,rfl⟩) | (go_at_call 223;refine HX.out.mono ?_;rintro e w1 ⟨rfl,hb1⟩))
 exact bodyPost_ret (v:=.tuple #[.float .f64 f,.int .i64 s.size,.nilIface]) (by simp[results,Tryz.results121,go_sem]) rfl ⟨rfl,hb1⟩
def PF (d:Nat) (p:Int) (f:Nat) (b:Bool):Prop:=∀ w,Glob2 w→Calls Tryz.prog 224 #[.int .u64 d,.int .i64 p,.int .u64 0] w fun e w'=>e = .returned (.tuple #[.float .f64 f,Q6 b])∧Below w.heap.size w w'
theorem qmQ (s:ByteArray) (d:Nat) (p:Int) (g f:Nat) (b:Bool) (h:RDs s d p) (hd:d≠0) (hp:¬ p < -345) (hp2:¬ 310<p) (hx:EX d p g false) (hpf:PF d p f b):AT s f b:=by
 intro w hG
 have h6:=hG.glob.knows.ways
 have HS:=zxi (fun w=>jJ s h.1 w)
 have HR:=zxi h.2
 have HX:=zxi (hx w hG)
 have HP:=zxi (fun w' (hb:Below w.heap.size w w')=>hpf w' (hG.below hb))
 have hd2:((d:Int) == 0)=false:=by simpa using hd
 clear hG h hd hx hpf
 go_enter Tryz.func210,Tryz.ntmps210
 go_wp2_with (first | (go_at_call 212;refine(HS.out _).mono ?_;rintro e w' ⟨rfl,rfl⟩) | (go_at_call 213;refine(HR.out _).mono ?_;rintro e w' ⟨rfl,rfl⟩) | (go_at_call 221;refine(j6 _).mono ?_;rintro e w' ⟨rfl,rfl⟩) | (go_at_call 223;refine HX.out.mono ?_;rintro e w1 ⟨rfl,hb1⟩) | (go_at_call 224;refine(HP.out _ hb1).mono ?_;rintro e w2 ⟨rfl,hb2⟩))
 exact bodyPost_ret (v:=.tuple #[.float .f64 f,.int .i64 s.size,Q6 b]) (by simp[results,Tryz.results121,go_sem]) rfl ⟨rfl,qa hb1 hb2⟩
end Go.Proofs.YtacdfjlncfidgaaGreatDoor
