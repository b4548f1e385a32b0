/- A part of what the claim leans on. -/
import Derived.Test.YtacdfjlncfidgaaGreatDoorRD
import Derived.Test.YtacdfjlncfidgaaGreatDoorRE
import Derived.Deep.RegionWith
import Derived.Deep.RegionHeldLaw
namespace Go.Proofs.YtacdfjlncfidgaaGreatDoor
open Go.RowKit
set_option linter.unusedVariables false
set_option linter.unusedSimpArgs false
set_option maxRecDepth 100000
set_option maxHeartbeats 6400000
structure NameIs (L : BL) : Prop where
 ne : L ≠ []
 sp : speltN L = L.length
 le : L.length ≤ 40
 un : L ≠ [95]
 rs : hasB resW L = false
theorem takeWA {p : UInt8 → Bool} {L : BL} (h : (L.takeWhile p).length = L.length) : ∀ c ∈ L, p c = true := by
 induction L with
 | nil => simp
 | cons a L ih =>
  rw [List.takeWhile_cons] at h
  split at h
  · rename_i ha
    intro c hc
    rcases List.mem_cons.1 hc with rfl | hc
    · exact ha
    · exact ih (by simpa using h) c hc
  · simp at h
theorem takeW_of {p : UInt8 → Bool} {L : BL} (h : ∀ c ∈ L, p c = true) : (L.takeWhile p).length = L.length := by
 induction L with
 | nil => rfl
 | cons a L ih => rw [List.takeWhile_cons, if_pos (h a (by simp)), List.length_cons, ih (fun c hc => h c (by simp [hc])), List.length_cons]
theorem spelt_all {L : BL} (hne : L ≠ []) : speltN L = L.length ↔ ((∃ c r, L = c :: r ∧ isLet c = true) ∧ ∀ c ∈ L, isLD c = true) := by
 cases L with
 | nil => exact absurd rfl hne
 | cons c r =>
  have e : speltN (c :: r) = if isLet c then ((c :: r).takeWhile isLD).length else 0 := rfl
  rw [e]
  constructor
  · intro h
    split at h
    · rename_i hc; exact ⟨⟨c, r, rfl, hc⟩, takeWA h⟩
    · simp at h
  · rintro ⟨⟨c', r', hcr, hc⟩, h⟩
    cases hcr
    rw [if_pos hc]; exact takeW_of h
theorem NameIs.tk {L : BL} (h : NameIs L) (eF : BL → Int) : takeV eF L = (0, 1, L.length) := by
 have hp : 0 < L.length := List.length_pos_iff.2 h.ne
 unfold takeV
 rw [h.sp, if_pos hp, List.take_of_length_le (Nat.le_refl _)]
 have hr : resW.contains L = false := h.rs
 rw [hr, if_neg (by simp), if_neg (by have := h.le; omega), if_neg h.un]
theorem let_hd {c : UInt8} (h : isLet c = true) : isBl c = false ∧ c.toNat ≠ 10 ∧ c.toNat ≠ 47 := by
 simp only [isLet, Bool.or_eq_true, Bool.and_eq_true, decide_eq_true_eq] at h
 refine ⟨?_, by omega, by omega⟩
 unfold isBl
 simp only [Bool.or_eq_false_iff, decide_eq_false_iff_not]
 omega
theorem NameIs.hd {L : BL} (h : NameIs L) : ∃ c r, L = c :: r ∧ isBl c = false ∧ c.toNat ≠ 10 ∧ c.toNat ≠ 47 := by
 obtain ⟨⟨c, r, e, hc⟩, _⟩ := (spelt_all h.ne).1 h.sp
 exact ⟨c, r, e, (let_hd hc).1, (let_hd hc).2.1, (let_hd hc).2.2⟩
theorem comN_cons {c : UInt8} {r : BL} (h : c.toNat = 47) : comN (c :: r) = 1 + comN r := by
 unfold comN
 rw [List.takeWhile_cons, if_pos (by simp [h])]
 simp; omega
theorem comN_le (L : BL) : comN L ≤ L.length := (List.takeWhile_sublist _).length_le
theorem drop_nil' {L : BL} {k : Nat} (h : L.length ≤ k) : L.drop k = [] := List.drop_eq_nil_of_le h
theorem lexV_end {eF : BL → Int} {L : BL} {k : Nat} {acc : List Tk} {last : Option Tk} (h : L.length ≤ k) : lexV eF L k acc last = .ok (closeV acc last) := by
 rw [lexV]; split
 · rfl
 · rename_i c r hd; rw [drop_nil' h] at hd; cases hd
theorem lexV_blank {eF : BL → Int} {L : BL} {k : Nat} {acc : List Tk} {last : Option Tk} {c : UInt8} {r : BL} (hd : L.drop k = c :: r) (h : isBl c = true) : lexV eF L k acc last = lexV eF L (k + 1) acc last := by
 rw [lexV]; split
 · rename_i hn; rw [hd] at hn; cases hn
 · rename_i c' r' hd'; rw [hd] at hd'; cases hd'; rw [if_pos h]
theorem lexV_line {eF : BL → Int} {L : BL} {k : Nat} {acc : List Tk} {last : Option Tk} {c : UInt8} {r : BL} (hd : L.drop k = c :: r) (h : isBl c = false) (h2 : c.toNat = 10) : lexV eF L k acc last = lexV eF L (k + 1) (closeV acc last) none := by
 rw [lexV]; split
 · rename_i hn; rw [hd] at hn; cases hn
 · rename_i c' r' hd'; rw [hd] at hd'; cases hd'; rw [if_neg (by rw [h]; exact Bool.false_ne_true), if_pos h2]
theorem lexV_com {eF : BL → Int} {L : BL} {k : Nat} {acc : List Tk} {last : Option Tk} {c : UInt8} {r : BL} (hd : L.drop k = c :: r) (h : isBl c = false) (h2 : ¬ c.toNat = 10) (h3 : c.toNat = 47 ∧ r.head? = some 47) : lexV eF L k acc last = lexV eF L (k + 1 + comN r) acc last := by
 rw [lexV]; split
 · rename_i hn; rw [hd] at hn; cases hn
 · rename_i c' r' hd'; rw [hd] at hd'; cases hd'; rw [if_neg (by rw [h]; exact Bool.false_ne_true), if_neg h2, if_pos h3]
def tkAt (eF : BL → Int) (L : BL) (k : Nat) : Tk := ⟨(takeV eF (L.drop k)).2.1, (L.drop k).take (takeV eF (L.drop k)).2.2, k, k + (takeV eF (L.drop k)).2.2⟩
theorem lexV_tok {eF : BL → Int} {L : BL} {k : Nat} {acc : List Tk} {last : Option Tk} {c : UInt8} {r : BL} (hd : L.drop k = c :: r) (h : isBl c = false) (h2 : ¬ c.toNat = 10) (h3 : ¬ (c.toNat = 47 ∧ r.head? = some 47))
  (h4 : (takeV eF (L.drop k)).1 = 0 ∧ 0 < (takeV eF (L.drop k)).2.2) : lexV eF L k acc last = lexV eF L (k + (takeV eF (L.drop k)).2.2) (acc ++ [tkAt eF L k]) (some (tkAt eF L k)) := by
 rw [lexV]; split
 · rename_i hn; rw [hd] at hn; cases hn
 · rename_i c' r' hd'
   rw [hd] at hd'; cases hd'
   unfold tkAt
   rw [hd] at h4 ⊢
   rw [if_neg (by rw [h]; exact Bool.false_ne_true), if_neg h2, if_neg h3, dif_pos h4]
theorem lexV_err {eF : BL → Int} {L : BL} {k : Nat} {acc : List Tk} {last : Option Tk} {c : UInt8} {r : BL} (hd : L.drop k = c :: r) (h : isBl c = false) (h2 : ¬ c.toNat = 10) (h3 : ¬ (c.toNat = 47 ∧ r.head? = some 47))
  (h4 : ¬ (takeV eF (L.drop k)).1 = 0) : lexV eF L k acc last = .error (k, (takeV eF (L.drop k)).1) := by
 rw [lexV]; split
 · rename_i hn; rw [hd] at hn; cases hn
 · rename_i c' r' hd'
   rw [hd] at hd'; cases hd'
   rw [hd] at h4 ⊢
   rw [if_neg (by rw [h]; exact Bool.false_ne_true), if_neg h2, if_neg h3, dif_neg (fun hh => h4 hh.1)]
theorem takeV_ok {L : BL} (h : (takeV eFv L).1 = 0) : 0 < (takeV eFv L).2.2 ∧ (takeV eFv L).2.2 ≤ L.length ∧ ∀ a b, endsL (takeV eFv L).2.1 (L.take (takeV eFv L).2.2) = endsV ⟨(takeV eFv L).2.1, L.take (takeV eFv L).2.2, a, b⟩ := by
 by_cases h0 : 0 < speltN L
 · have e : takeV eFv L = (if hasB resW (L.take (speltN L)) then (0, 2, speltN L) else if 40 < speltN L then (3, 1, speltN L) else if L.take (speltN L) = [95] then (9, 1, speltN L) else (0, 1, speltN L)) := by
    unfold takeV; rw [if_pos h0]; rfl
   have hle := spelt_le L
   rw [e] at h ⊢
   by_cases hr : hasB resW (L.take (speltN L)) = true
   · rw [if_pos hr]
     refine ⟨h0, hle, fun a b => ?_⟩
     simp [endsL, endsV, hasB]
   · rw [if_neg hr] at h ⊢
     by_cases h40 : 40 < speltN L
     · rw [if_pos h40] at h; exact absurd h (by simp)
     · rw [if_neg h40] at h ⊢
       by_cases hu : L.take (speltN L) = [95]
       · rw [if_pos hu] at h; exact absurd h (by simp)
       · rw [if_neg hu]
         exact ⟨h0, hle, fun a b => by simp [endsL, endsV]⟩
 · have e := takeV_rest (L := L) (by omega)
   have hle := numN_le L
   rw [e] at h ⊢
   by_cases h1 : 0 < (numN L).2
   · rw [if_pos h1]
     refine ⟨h1, hle, fun a b => ?_⟩
     have hk : (numN L).1 = 3 ∨ (numN L).1 = 4 := by unfold numN; split <;> simp
     rcases hk with hk | hk <;> simp only [hk] <;> simp [endsL, endsV]
   · rw [if_neg h1] at h ⊢
     cases hq : quotV L with
     | some vn =>
      obtain ⟨v, n⟩ := vn
      have := quotV_le hq
      exact ⟨by simp only; omega, by simp only; omega, fun a b => by simp [endsL, endsV]⟩
     | none =>
      rw [hq] at h
      simp only at h ⊢
      by_cases h5 : L.head? = some 59
      · rw [if_pos h5]
        cases L with
        | nil => cases h5
        | cons c r =>
         simp at h5
         subst h5
         exact ⟨by decide, by simp, fun a b => by simp [endsL, endsV]⟩
      · rw [if_neg h5] at h ⊢
        have hm := markN_le L
        by_cases h6 : 0 < markN L
        · rw [if_pos h6]
          exact ⟨h6, hm, fun a b => by simp [endsL, endsV]⟩
        · rw [if_neg h6] at h; exact absurd h (by simp)
theorem LSt.push2 {w0 w w2 : World} {Lb Rb g cap H : Nat} {acc : List Tk} {last : Option Tk} {y : Tk} {v : Value} (h : LSt w0 Lb Rb acc last w) (hv : w.heap[Lb]? = some (.cells #[v] 125 (0, 0)))
  (ho2 : Own tkC 4 128 w2 w0.heap.size (.slice (some ⟨g, 0, none⟩) (acc.length + 1) cap) (acc ++ [y])) (hblk : ∀ b, b < w.heap.size → v.ownBlock ≠ some b → w2.heap[b]? = w.heap[b]?) (hbel : Below w0.heap.size w0 w2)
  (hat : v.ownBlock = some g ∨ g = H) (hH : w.heap.size ≤ H) (h3 : v.ownBlock ≠ some Lb) (h4 : v.ownBlock ≠ some Rb) :
  LSt w0 Lb Rb (acc ++ [y]) last (w2.setCell ⟨Lb, 0, none⟩ (.slice (some ⟨g, 0, none⟩) (acc.length + 1) cap)) := by
 obtain ⟨k, t, a, b, h5, h6⟩ := h.rcell
 have hLlt := (Array.getElem?_eq_some_iff.1 hv).1
 have hRlt := (Array.getElem?_eq_some_iff.1 h5).1
 have e1 := (hblk Lb hLlt h3).trans hv
 have e2 := (hblk Rb hRlt h4).trans h5
 have hgL : g ≠ Lb := by
  rcases hat with e | e
  · exact fun e2 => h3 (e2 ▸ e)
  · omega
 have hgR : g ≠ Rb := by
  rcases hat with e | e
  · exact fun e2 => h4 (e2 ▸ e)
  · omega
 exact ⟨⟨_, set_heap e1, own_keep ho2 (fun q hq => set_other (fun e => hgL (by simp [Value.ownBlock] at hq; omega))), fun e => hgL (by simpa [Value.ownBlock] using e), fun e => hgR (by simpa [Value.ownBlock] using e)⟩,
  ⟨k, t, a, b, (set_other (fun e => h.ne e.symm)).trans e2, h6⟩, h.ne, h.lb, h.rb, hbel.setCell (p := ⟨Lb, 0, none⟩) h.lb _⟩
theorem set_size' {w : World} {b i : Nat} {v : Value} : (w.setCell ⟨b, i, none⟩ v).heap.size = w.heap.size := by
 rw [Go.Sort.setCell_eq]; unfold Go.Sort.mapBlock; simp
theorem tokens_end {L : BL} {w W : World} {b : Nat} {tmps : Array Value} {v : Value} {p : Nat} {er : Int} (hL : W.heap[b]? = some (.cells #[v] 125 (0, 0))) (hO : TokensOut w L (.returned (.tuple #[v, .int .i64 (p : Int), .int .i64 er])) W)
  (h2 : tmps.getD 2 undef = .pointer (some ⟨b, 0, none⟩)) (h3 : tmps.getD 3 undef = .int .i64 (p : Int)) (h4 : tmps.getD 4 undef = .int .i64 er) (hB : Below w.heap.size w W) :
  bodyPost Tryz.prog Tryz.f135 (fun e w' => TokensOut w L e w' ∧ Below w.heap.size w w') .ret { tmps := tmps, defers := [] } W := by
 refine bodyPost_ret (v := .tuple #[v, .int .i64 (p : Int), .int .i64 er]) ?_ rfl ⟨hO, hB⟩
 rw [results_cell3 rfl]
 simp only
 rw [h2, h3, h4, show (asAddr (.pointer (some ⟨b, 0, none⟩))).run Tryz.prog _ = .ok ⟨b, 0, none⟩ _ from rfl]
 simp only [Result.andThen]
 rw [load_cell hL]
theorem own_slice4 {w : World} {B : Nat} {v : Value} {l : List Tk} (h : Own tkC 4 128 w B v l) : ∃ ao n cap, v = .slice ao n cap := by
 rcases h.2 with hn | ⟨g, cap, cur, rfl, _⟩
 · exact ⟨_, _, _, hn.1⟩
 · exact ⟨_, _, _, rfl⟩
theorem last_is {L : BL} {k n K m : Nat} {X : BL} (h : ∀ a b, endsL (takeV eFv (L.drop k)).2.1 ((L.drop k).take (takeV eFv (L.drop k)).2.2) = endsV ⟨(takeV eFv (L.drop k)).2.1, (L.drop k).take (takeV eFv (L.drop k)).2.2, a, b⟩)
  (hK : (takeV eFv (L.drop k)).2.1 = K) (hN : (takeV eFv (L.drop k)).2.2 = n) (hX : X = (L.drop k).take n) : LastIs (some ⟨K, X, k, m⟩) K (toBA X) m := by
 subst hN hK hX
 first
  | exact ⟨rfl, rfl, rfl, h k m⟩
  | exact ⟨rfl, rfl, h k m⟩
  | exact ⟨rfl, toBA_list _, rfl, by rw [toBA_list]; exact h k m⟩
theorem lst_new (w : World) (w1 : World) (hb : Below w.heap.size w w1) (hl : w1.heap[w.heap.size]? = some (.cells #[.slice none 0 0] 125 (0, 0))) : LSt w w.heap.size w1.heap.size [] none (w1.alloc (.cells #[.int .i64 0, .string ⟨#[]⟩, .int .i64 0, .int .i64 0] 128)) := by
 have hlt := (Array.getElem?_eq_some_iff.1 hl).1
 exact ⟨⟨_, blk_alloc hl, Own.nil_, by simp [Value.ownBlock], by simp [Value.ownBlock]⟩, ⟨0, ⟨#[]⟩, 0, 0, cells_tok w1 _ _ _ _, rfl, rfl⟩, by omega, Nat.le_refl _, hb.size, hb.alloc hb.size _⟩
theorem ltokens (s : ByteArray) (w : World) (hs : s.size ≤ 65536) (hG : LexG w) (hbr : brkV s.data.toList 0 = none) :
  Calls Tryz.prog 135 #[.string s] w fun e w' => TokensOut w s.data.toList e w' ∧ Below w.heap.size w w' := by
 have hsz : s.data.toList.length = s.size := rfl
 have hb0 : Below w.heap.size w (w.alloc (.cells #[.slice none 0 0] 125)) := (Below.refl _ _).alloc (Nat.le_refl _) _
 have hl0 : (w.alloc (.cells #[.slice none 0 0] 125)).heap[w.heap.size]? = some (.cells #[.slice none 0 0] 125 (0, 0)) := heap_alloc_new w _
 have hbk := lbroken s (w.alloc (.cells #[.slice none 0 0] 125)) (by omega) (hG.below ((Below.refl _ _).alloc (Nat.le_refl _) _)).u8
 rw [hbr] at hbk
 have HBK := Lib.hid (show Calls Tryz.prog 152 #[.string s] (w.alloc (.cells #[.slice none 0 0] 125)) fun e w' => e = .returned (.int .i64 (-1)) ∧ Below (w.alloc (.cells #[.slice none 0 0] 125)).heap.size (w.alloc (.cells #[.slice none 0 0] 125)) w' from hbk)
 have htv : tokensV s.data.toList = lexV eFv s.data.toList 0 [] none := by
  unfold tokensV; rw [if_neg (by rw [hsz]; omega), hbr]
 have hle : ¬ (65536 : Int) < (s.size : Int) := by omega
 have HTV := Lib.hid htv
 have HSZ := Lib.hid hsz
 have HB0 := Lib.hid hb0
 have HL0 := Lib.hid hl0
 have HG := Lib.hid hG
 have hmf : ∀ (fn : Fn) (first cap : Array Value) (w : World), (Instr.makeFunc fn first cap).run Tryz.prog w = .ok (.func fn first cap) w := fun _ _ _ _ => rfl
 clear hsz hb0 hl0 hG hbr hbk htv
 go_enter Tryz.func135, Tryz.ntmps135
 go_wp2_with (first | (go_at_call 152; refine HBK.out.mono ?_; rintro e w1 ⟨rfl, hb1⟩; have HI := Lib.hid (lst_new w w1 (HB0.out.trans (hb1.mono HB0.out.size)) (blk_below HL0.out hb1)); clear hb1))
 have hne1 : w.heap.size ≠ w1.heap.size := HI.out.ne
 generalize hR : w1.heap.size = Rb at HI hne1 ⊢
 clear hR
 go_loopw [8] (fun av wr => ∃ (k : Nat) (acc : List Tk) (last : Option Tk), k ≤ s.size ∧ av = .int .i64 k ∧ acc.length ≤ k ∧ lexV eFv s.data.toList 0 [] none = lexV eFv s.data.toList k acc last ∧ LSt w w.heap.size Rb acc last wr) (fun av _ => s.size - (intOf av).toNat)
 case atStart => exact ⟨0, [], none, Nat.zero_le _, rfl, Nat.le_refl _, rfl, HI.out⟩
 case round =>
  obtain ⟨k, acc, last, hk, rfl, hal, hv, hst⟩ := hrel
  have HST := Lib.hid hst
  have HV := Lib.hid hv
  clear hst hv HI
  by_cases hlt : k < s.size
  · have hlt2 : (k : Int) < (s.size : Int) := by omega
    have hkle : (k : Int) ≤ (s.size : Int) := by omega
    have hxs : (s.extract k s.size).size = s.size - k := ext_size s k
    have hxp : 0 < (s.extract k s.size).size := by omega
    obtain ⟨c, r, hd, hc⟩ := hd_cons hxp
    rw [ext_list] at hd
    have hdl : r.length + 1 + k = s.size := by
     have := congrArg List.length hd
     rw [List.length_drop, HSZ.out] at this; simp at this; omega
    have hl30 : (s.extract k s.size).size ≤ 1000000 := by omega
    have HD := Lib.hid hd
    cases hb : isBl c with
    | true =>
     have HIX := Lib.hid (fun w => idx_in blanksB c w (isBl_in _ hb))
     unfold blanksB at HIX
     have HW := Lib.hid (HV.out.trans (lexV_blank hd hb))
     clear hd hb hxs hl30
     go_wp2_with (first | (go_at_call 101; refine (HIX.out _).mono ?_; rintro e w2 ⟨⟨i, rfl, hi⟩, rfl⟩; have hi2 : 0 ≤ i := by omega))
     go_roundw
     case rel => exact ⟨k + 1, acc, last, by omega, by go_num, by omega, HW.out, HST.out⟩
     case measure => simp only [intOf]; omega
    | false =>
     have HIX := Lib.hid (fun w => idx_out blanksB c w (isBl_in _ hb))
     unfold blanksB at HIX
     by_cases h10 : c.toNat = 10
     · have b10 : ((c.toNat : Int) == 10) = true := beq_iff_eq.2 (by omega)
       have HW := Lib.hid (HV.out.trans (lexV_line hd hb h10))
       have HLN := Lib.hid (lline w w.heap.size Rb acc last wr HST.out (by omega))
       have hcl : (closeV acc last).length ≤ k + 1 := by
        cases last with
        | none => show acc.length ≤ k + 1; omega
        | some t =>
         have e : closeV acc (some t) = if endsV t then acc ++ [⟨7, [], t.ed, t.ed⟩] else acc := rfl
         rw [e]; split
         · rw [List.length_append]; show acc.length + 1 ≤ k + 1; omega
         · omega
       clear hd hb hxs hl30 h10
       go_wp2_with (first | (go_at_call 101; refine (HIX.out _).mono ?_; rintro e w2 ⟨⟨i, rfl, hi⟩, rfl⟩; have hi2 : ¬ 0 ≤ i := by omega) | (go_at_call 153; refine HLN.out.mono ?_; rintro e w3 ⟨rfl, h3⟩; have HS3 := Lib.hid h3; clear h3))
       go_roundw
       case rel => exact ⟨k + 1, _, none, by omega, by go_num, hcl, HW.out, HS3.out⟩
       case measure => simp only [intOf]; omega
     · have b10 : ((c.toNat : Int) == 10) = false := beq_eq_false_iff_ne.2 (by omega)
       have hpc := fun w => pre_com (s.extract k s.size) w
       rw [ext_list, hd] at hpc
       simp only [List.head?_cons, List.tail_cons, Option.some.injEq] at hpc
       by_cases hcm : c = 47 ∧ r.head? = some 47
       · rw [decide_eq_true hcm] at hpc
         have HP := Lib.hid hpc
         have hcm2 : c.toNat = 47 ∧ r.head? = some 47 := ⟨by rw [hcm.1]; rfl, hcm.2⟩
         have HW := Lib.hid (HV.out.trans (lexV_com hd hb h10 hcm2))
         have hcu := fun w' hG => lcut (s.extract k s.size) w' hl30 hG
         rw [ext_list, hd, comN_cons hcm2.1] at hcu
         have hcl := comN_le r
         obtain ⟨n, hn⟩ : ∃ n, 1 + comN r = n := ⟨_, rfl⟩
         rw [hn] at hcu
         have hke : k + 1 + comN r = k + n := by omega
         rw [hke] at HW
         have HC := Lib.hid (hcu wr (HG.out.below HST.out.below))
         have hkn : k + n ≤ s.size := by omega
         have hn1 : 1 ≤ n := by omega
         clear hd hb hxs hl30 h10 hcm hcm2 hpc hcu hcl hn hke
         go_wp2_with (first | (go_at_call 101; refine (HIX.out _).mono ?_; rintro e w2 ⟨⟨i, rfl, hi⟩, rfl⟩; have hi2 : ¬ 0 ≤ i := by omega) | (go_at_call 155; refine (HP.out _).mono ?_; rintro e w3 ⟨rfl, rfl⟩) | (go_at_call 156; refine HC.out.mono ?_; rintro e w4 ⟨⟨x, y, b, rfl, hxn⟩, q, rfl⟩))
         go_roundw
         case rel => exact ⟨k + n, acc, last, by omega, by go_num, by omega, HW.out, HST.out.later (below_draws (Below.refl _ _) q)⟩
         case measure => simp only [intOf]; omega
       · rw [decide_eq_false hcm] at hpc
         have HP := Lib.hid hpc
         have hcm2 : ¬ (c.toNat = 47 ∧ r.head? = some 47) := fun hh => hcm ⟨UInt8.toNat_inj.1 hh.1, hh.2⟩
         have HT := Lib.hid (ltake (s.extract k s.size) wr hl30 (HG.out.below HST.out.below))
         rw [ext_list] at HT
         by_cases her : (takeV eFv (s.data.toList.drop k)).1 = 0
         · obtain ⟨n0, nl, hen⟩ := takeV_ok her
           rw [List.length_drop, HSZ.out] at nl
           have HW := Lib.hid (HV.out.trans (lexV_tok hd hb h10 hcm2 ⟨her, n0⟩))
           obtain ⟨v0, hv0, hov, hv1, hv2⟩ := HST.out.lcell
           have HV0 := Lib.hid hv0
           have HER := Lib.hid her
           obtain ⟨n, hn⟩ : ∃ n, (takeV eFv (s.data.toList.drop k)).2.2 = n := ⟨_, rfl⟩
           have hkn : k + n ≤ s.size := by omega
           have hn1 : 1 ≤ n := by omega
           have HN := Lib.hid hn
           have HEN := Lib.hid hen
           obtain ⟨m, hm⟩ : ∃ m, k + n = m := ⟨_, rfl⟩
           have hkm : (k : Int) + (n : Int) = (m : Int) := by omega
           obtain ⟨i32', hi32, hz0, hz1, hz2⟩ := info_cut info32
           have HV12 := Lib.hid (And.intro hv1 hv2)
           have HOV := Lib.hid hov
           clear hd hb hxs hl30 h10 hcm hcm2 hpc her hn hen n0 nl hov
           go_wp2_with (first | (go_at_call 101; refine (HIX.out _).mono ?_; rintro e w2 ⟨⟨i, rfl, hi⟩, rfl⟩; have hi2 : ¬ 0 ≤ i := by omega) | (go_at_call 155; refine (HP.out _).mono ?_; rintro e w3 ⟨rfl, rfl⟩) | (go_at_call 157; refine HT.out.mono ?_; rintro e w4 ⟨⟨k', t', a', b', rfl, ht0⟩, hb4⟩; obtain ⟨rfl, ht1, rfl, rfl⟩ := ht0 HER.out; rw [HER.out, HN.out]; rw [HN.out] at ht1; obtain ⟨X, rfl⟩ : ∃ X, t' = toBA X := ⟨_, (toBA_eta t').symm⟩; rw [toBA_list] at ht1; have HB4 := Lib.hid hb4; have HT1 := Lib.hid ht1; obtain ⟨l0, lz, ll⟩ := cell1 (blk_below HV0.out hb4); unfold tokV; clear ht0 hb4 ht1))
           obtain ⟨K, hK⟩ : ∃ K, (takeV eFv (s.data.toList.drop k)).2.1 = K := ⟨_, rfl⟩
           simp only [hK]
           have HS5 := Lib.hid ((HST.out.later HB4.out).later ((Below.refl w4.heap.size w4).alloc (Nat.le_refl _) (.cells #[.int .i64 (K : Int), .string (toBA X), .int .i64 (k : Int), .int .i64 (m : Int)] 128)))
           have HT5 := Lib.hid (cells_tok w4 (.int .i64 (K : Int)) (.string (toBA X)) (.int .i64 (k : Int)) (.int .i64 (m : Int)))
           have HL5 := Lib.hid (blk_alloc (o' := .cells #[.int .i64 (K : Int), .string (toBA X), .int .i64 (k : Int), .int .i64 (m : Int)] 128) (blk_below HV0.out HB4.out))
           have HO5 := Lib.hid ((HOV.out.below HB4.out).alloc (.cells #[.int .i64 (K : Int), .string (toBA X), .int .i64 (k : Int), .int .i64 (m : Int)] 128))
           have htb : v0.ownBlock ≠ some w4.heap.size := fun e => by
            have := (Own.lt (HOV.out.below HB4.out) _ e).2
            omega
           have HTB := Lib.hid htb
           have hb5 := HS5.out.below
           have hT1 : w4.heap.size ≠ w.heap.size := by omega
           have hT2 : w4.heap.size ≠ Rb := by
            obtain ⟨_, _, _, _, hRx, _⟩ := HST.out.rcell
            have h1 := (Array.getElem?_eq_some_iff.1 hRx).1
            have h2 := HB4.out.size
            omega
           generalize w4.alloc (.cells #[.int .i64 (K : Int), .string (toBA X), .int .i64 (k : Int), .int .i64 (m : Int)] 128) = W5 at HS5 HT5 HL5 HO5 hb5 ⊢
           generalize w4.heap.size = Tb at HT5 HTB hT1 hT2 ⊢
           have hT3 : w.heap.size ≠ Tb := fun e => hT1 e.symm
           have hT4 : Rb ≠ Tb := fun e => hT2 e.symm
           have hne2 : Rb ≠ w.heap.size := fun e => hne1 e.symm
           obtain ⟨k9, t9, a9, b9, hR9, _⟩ := HS5.out.rcell
           have HR9 := Lib.hid hR9
           obtain ⟨x0, x1, x2, x3, xz, xl⟩ := tcells HT5.out
           obtain ⟨l0, lz, ll⟩ := cell1 HL5.out
           obtain ⟨r0, r1, r2, r3, rz, rl⟩ := tcells hR9
           have hs5 := hb5.size
           clear hR9 htb hb5
           refine wp_region_held_drew (S := (fun w' => w'.cell? ⟨Tb, 0, none⟩ = some (.int .i64 (K : Int)) ∧ w'.cell? ⟨Tb, 1, none⟩ = some (.string (toBA X)) ∧ w'.cell? ⟨Tb, 2, none⟩ = some (.int .i64 (k : Int)) ∧ w'.cell? ⟨Tb, 3, none⟩ = some (.int .i64 (m : Int)))) (by kernel_rfl) (by (try dsimp only); go_keep) (fun hHeld => ?_)
           refine wpAnyH_take (i := 1) (v := ?_) rfl (by kernel_rfl) (by kernel_rfl) (by kernel_rfl) (fun _ _ _ h => h) (Or.inl ⟨by rfl, ?_⟩) (by assumption) ?_
           rotate_left
           · intro w hSw; (try dsimp only at hSw); go_simp
             all_goals with_reducible rfl
           (try simp only [Act.put, List.setIfInBounds_toArray, List.set_cons_zero, List.set_cons_succ])
           refine wpAnyH_take (i := 4) (v := ?_) rfl (by kernel_rfl) (by kernel_rfl) (by kernel_rfl) (fun _ _ _ h => h) (Or.inl ⟨by rfl, ?_⟩) (by assumption) ?_
           rotate_left
           · intro w hSw; (try dsimp only at hSw); go_simp
             all_goals with_reducible rfl
           (try simp only [Act.put, List.setIfInBounds_toArray, List.set_cons_zero, List.set_cons_succ])
           refine wpAnyH_take (i := 5) (v := ?_) rfl (by kernel_rfl) (by kernel_rfl) (by kernel_rfl) (fun _ _ _ h => h) (Or.inl ⟨by rfl, ?_⟩) (by assumption) ?_
           rotate_left
           · intro w hSw; (try dsimp only at hSw); go_simp
             all_goals with_reducible rfl
           (try simp only [Act.put, List.setIfInBounds_toArray, List.set_cons_zero, List.set_cons_succ])
           refine wpAnyH_take (i := 6) (v := ?_) rfl (by kernel_rfl) (by kernel_rfl) (by kernel_rfl) (fun _ _ _ h => h) (Or.inl ⟨by rfl, ?_⟩) (by assumption) ?_
           rotate_left
           · intro w hSw; (try dsimp only at hSw); go_simp
             all_goals with_reducible rfl
           (try simp only [Act.put, List.setIfInBounds_toArray, List.set_cons_zero, List.set_cons_succ])
           refine wpAnyH_ready (rs := [0, 2]) (by kernel_rfl) (by simp) ?_
           refine AllReadyH.cons rfl (fun KK hKK => ?_) (AllReadyH.cons rfl (fun KK hKK => ?_) AllReadyH.nil)
           · go_simp
             refine hKK.out _ _ (by (try dsimp only); go_keep) (fun hHeld2 => ?_)
             clear hKK KK hHeld
             rename _ => hHeld
             refine wpAnyH_ready (rs := [2]) (by kernel_rfl) (by simp) ?_
             refine AllReadyH.cons rfl (fun KK hKK => ?_) AllReadyH.nil
             go_simp
             refine hKK.out _ _ (by (try dsimp only); go_keep) (fun hHeld2 => ?_)
             clear hKK KK hHeld
             rename _ => hHeld
             refine wpAnyH_ready (rs := [3]) (by kernel_rfl) (by simp) ?_
             refine AllReadyH.cons rfl (fun KK hKK => ?_) AllReadyH.nil
             (refine step_append_rec (cs := tkC) (by rfl) _ _ _ (by rfl) 128 i32' _ 40 Tryz.underlying125 hi32 hz0 hz1 hz2 rfl (by omega) tkC_len tkC_one _ w.heap.size W5.heap.size v0 acc ⟨K, X, k, m⟩ _ (0, 0) (by rfl) (by rfl) (by rfl) (by exact new_at (w := W5) rfl) (Own.alloc HO5.out _) (by unfold maxLen; omega) (by omega) (by show w.heap.size ≤ (W5.alloc _).heap.size; rw [World.size_alloc]; have h9 : w.heap.size ≤ W5.heap.size := hs5; omega) (W5.heap.size + 1) (by simp) ?_; intro gg cc w6 hown6 hg6 hat6 hlt6; have hblk : ∀ b, b < W5.heap.size → v0.ownBlock ≠ some b → w6.heap[b]? = W5.heap[b]? := (fun b hb hn => (hg6.block b (by show b < (W5.alloc _).heap.size; rw [World.size_alloc]; have h9 : b < W5.heap.size := hb; omega) (fun e => hn e.symm)).trans (Go.heap_alloc_old W5 _ hb)); have hbel : Below w.heap.size w w6 := (by first | exact (HS5.out.below.alloc HS5.out.below.size _).drew.grown hg6 (by show w.heap.size ≤ (W5.alloc _).heap.size; rw [World.size_alloc]; have h9 : w.heap.size ≤ W5.heap.size := hs5; omega) (fun q hq => (Own.lt HO5.out q hq).1) | exact (HS5.out.below.alloc HS5.out.below.size _).grown hg6 (by show w.heap.size ≤ (W5.alloc _).heap.size; rw [World.size_alloc]; have h9 : w.heap.size ≤ W5.heap.size := hs5; omega) (fun q hq => (Own.lt HO5.out q hq).1)); have HP := Lib.hid (HS5.out.push2 HL5.out hown6 hblk hbel hat6 (Nat.le_succ _) HV12.out.1 HV12.out.2); obtain ⟨x0, x1, x2, x3, xz, xl⟩ := tcells ((hblk Tb xl HTB.out).trans HT5.out); obtain ⟨l0, lz, ll⟩ := cell1 ((hblk _ ll HV12.out.1).trans HL5.out); obtain ⟨r0, r1, r2, r3, rz, rl⟩ := tcells ((hblk Rb rl HV12.out.2).trans HR9.out); clear hown6 hg6 hat6 hlt6 hblk hbel)
             refine hKK.out _ _ (by (try dsimp only); go_keep) (fun hHeld2 => ?_)
             clear hKK KK hHeld
             rename _ => hHeld
             refine wpAnyH_ready (rs := [7]) (by kernel_rfl) (by simp) ?_
             refine AllReadyH.cons rfl (fun KK hKK => ?_) AllReadyH.nil
             go_simp
             refine hKK.out _ _ (by (try dsimp only); go_keep) (fun hHeld2 => ?_)
             clear hKK KK hHeld
             rename _ => hHeld
             refine wpAnyH_ready (rs := [8]) (by kernel_rfl) (by simp) ?_
             refine AllReadyH.cons rfl (fun KK hKK => ?_) AllReadyH.nil
             go_simp
             refine hKK.out _ _ (by (try dsimp only); go_keep) (fun hHeld2 => ?_)
             clear hKK KK hHeld
             rename _ => hHeld
             refine wpAnyH_take (i := 9) (oi := ⟨some 8, .assign (.tmp 53), 3, "lexer.go:239", _, none⟩) (v := ?_) rfl (by kernel_rfl) (by kernel_rfl) (by kernel_rfl) (fun _ _ _ h => h) (Or.inl ⟨by rfl, ?_⟩) (by assumption) ?_
             rotate_left
             · intro w hSw; (try dsimp only at hSw); go_simp
               all_goals with_reducible rfl
             (try simp only [Act.put, List.setIfInBounds_toArray, List.set_cons_zero, List.set_cons_succ])
             refine wpAnyH_done (by kernel_rfl) ?_ _
             go_wp2_with fail
             go_roundw
             case rel =>
              refine ⟨m, acc ++ [⟨K, X, k, m⟩], some ⟨K, X, k, m⟩, by omega, by go_num, by simp; omega, ?_, HP.out.setLast (k := K) (t := toBA X) (a := k) (b := m) (last_is HEN.out hK HN.out HT1.out)⟩
              have htk : tkAt eFv s.data.toList k = ⟨K, X, k, m⟩ := by unfold tkAt; rw [hK, HN.out, ← HT1.out, hm]
              rw [← htk, ← hm, HW.out, HN.out]
             case measure => simp only [intOf]; omega
           · go_simp
             refine hKK.out _ _ (by (try dsimp only); go_keep) (fun hHeld2 => ?_)
             clear hKK KK hHeld
             rename _ => hHeld
             refine wpAnyH_ready (rs := [0]) (by kernel_rfl) (by simp) ?_
             refine AllReadyH.cons rfl (fun KK hKK => ?_) AllReadyH.nil
             go_simp
             refine hKK.out _ _ (by (try dsimp only); go_keep) (fun hHeld2 => ?_)
             clear hKK KK hHeld
             rename _ => hHeld
             refine wpAnyH_ready (rs := [3]) (by kernel_rfl) (by simp) ?_
             refine AllReadyH.cons rfl (fun KK hKK => ?_) AllReadyH.nil
             (refine step_append_rec (cs := tkC) (by rfl) _ _ _ (by rfl) 128 i32' _ 40 Tryz.underlying125 hi32 hz0 hz1 hz2 rfl (by omega) tkC_len tkC_one _ w.heap.size W5.heap.size v0 acc ⟨K, X, k, m⟩ _ (0, 0) (by rfl) (by rfl) (by rfl) (by exact new_at (w := W5) rfl) (Own.alloc HO5.out _) (by unfold maxLen; omega) (by omega) (by show w.heap.size ≤ (W5.alloc _).heap.size; rw [World.size_alloc]; have h9 : w.heap.size ≤ W5.heap.size := hs5; omega) (W5.heap.size + 1) (by simp) ?_; intro gg cc w6 hown6 hg6 hat6 hlt6; have hblk : ∀ b, b < W5.heap.size → v0.ownBlock ≠ some b → w6.heap[b]? = W5.heap[b]? := (fun b hb hn => (hg6.block b (by show b < (W5.alloc _).heap.size; rw [World.size_alloc]; have h9 : b < W5.heap.size := hb; omega) (fun e => hn e.symm)).trans (Go.heap_alloc_old W5 _ hb)); have hbel : Below w.heap.size w w6 := (by first | exact (HS5.out.below.alloc HS5.out.below.size _).drew.grown hg6 (by show w.heap.size ≤ (W5.alloc _).heap.size; rw [World.size_alloc]; have h9 : w.heap.size ≤ W5.heap.size := hs5; omega) (fun q hq => (Own.lt HO5.out q hq).1) | exact (HS5.out.below.alloc HS5.out.below.size _).grown hg6 (by show w.heap.size ≤ (W5.alloc _).heap.size; rw [World.size_alloc]; have h9 : w.heap.size ≤ W5.heap.size := hs5; omega) (fun q hq => (Own.lt HO5.out q hq).1)); have HP := Lib.hid (HS5.out.push2 HL5.out hown6 hblk hbel hat6 (Nat.le_succ _) HV12.out.1 HV12.out.2); obtain ⟨x0, x1, x2, x3, xz, xl⟩ := tcells ((hblk Tb xl HTB.out).trans HT5.out); obtain ⟨l0, lz, ll⟩ := cell1 ((hblk _ ll HV12.out.1).trans HL5.out); obtain ⟨r0, r1, r2, r3, rz, rl⟩ := tcells ((hblk Rb rl HV12.out.2).trans HR9.out); clear hown6 hg6 hat6 hlt6 hblk hbel)
             refine hKK.out _ _ (by (try dsimp only); go_keep) (fun hHeld2 => ?_)
             clear hKK KK hHeld
             rename _ => hHeld
             refine wpAnyH_ready (rs := [7]) (by kernel_rfl) (by simp) ?_
             refine AllReadyH.cons rfl (fun KK hKK => ?_) AllReadyH.nil
             go_simp
             refine hKK.out _ _ (by (try dsimp only); go_keep) (fun hHeld2 => ?_)
             clear hKK KK hHeld
             rename _ => hHeld
             refine wpAnyH_ready (rs := [8]) (by kernel_rfl) (by simp) ?_
             refine AllReadyH.cons rfl (fun KK hKK => ?_) AllReadyH.nil
             go_simp
             refine hKK.out _ _ (by (try dsimp only); go_keep) (fun hHeld2 => ?_)
             clear hKK KK hHeld
             rename _ => hHeld
             refine wpAnyH_take (i := 9) (oi := ⟨some 8, .assign (.tmp 53), 3, "lexer.go:239", _, none⟩) (v := ?_) rfl (by kernel_rfl) (by kernel_rfl) (by kernel_rfl) (fun _ _ _ h => h) (Or.inl ⟨by rfl, ?_⟩) (by assumption) ?_
             rotate_left
             · intro w hSw; (try dsimp only at hSw); go_simp
               all_goals with_reducible rfl
             (try simp only [Act.put, List.setIfInBounds_toArray, List.set_cons_zero, List.set_cons_succ])
             refine wpAnyH_done (by kernel_rfl) ?_ _
             go_wp2_with fail
             go_roundw
             case rel =>
              refine ⟨m, acc ++ [⟨K, X, k, m⟩], some ⟨K, X, k, m⟩, by omega, by go_num, by simp; omega, ?_, HP.out.setLast (k := K) (t := toBA X) (a := k) (b := m) (last_is HEN.out hK HN.out HT1.out)⟩
              have htk : tkAt eFv s.data.toList k = ⟨K, X, k, m⟩ := by unfold tkAt; rw [hK, HN.out, ← HT1.out, hm]
              rw [← htk, ← hm, HW.out, HN.out]
             case measure => simp only [intOf]; omega
         · have HW := Lib.hid (HTV.out.trans (HV.out.trans (lexV_err hd hb h10 hcm2 her)))
           have hx : ∃ er, (takeV eFv (s.data.toList.drop k)).1 = er := ⟨_, rfl⟩
           obtain ⟨er, hex⟩ := hx
           have HEX := Lib.hid hex
           have hern : (er != 0) = true := by rw [hex] at her; simpa using her
           obtain ⟨v0, hv0, hov, hv1, hv2⟩ := HST.out.lcell
           have HV0 := Lib.hid hv0
           clear hd hb hxs hl30 h10 hcm hcm2 hpc her hex
           go_wp2_with (first | (go_at_call 101; refine (HIX.out _).mono ?_; rintro e w2 ⟨⟨i, rfl, hi⟩, rfl⟩; have hi2 : ¬ 0 ≤ i := by omega) | (go_at_call 155; refine (HP.out _).mono ?_; rintro e w3 ⟨rfl, rfl⟩) | (go_at_call 157; refine HT.out.mono ?_; rintro e w4 ⟨⟨k', t', a', b', rfl, ht0⟩, hb4⟩; rw [HEX.out]; have HB4 := Lib.hid hb4; obtain ⟨l0, lz, ll⟩ := cell1 (blk_below HV0.out hb4); unfold tokV; clear ht0 hb4))
           refine tokens_end (v := .slice none 0 0) (p := k) (er := er) (blk_alloc (set_heap (blk_below HV0.out HB4.out))) ?_ rfl rfl rfl (((HST.out.below.trans (HB4.out.mono HST.out.below.size)).setCell (p := ⟨w.heap.size, 0, none⟩) (Nat.le_refl _) _).alloc (by rw [set_size']; exact Nat.le_trans HST.out.below.size HB4.out.size) _)
           unfold TokensOut; rw [HW.out, HEX.out]
  · have hke : k = s.size := by omega
    have HLN := Lib.hid (lline w w.heap.size Rb acc last wr HST.out (by omega))
    have HTK := Lib.hid (show tokensV s.data.toList = .ok (closeV acc last) from HTV.out.trans (HV.out.trans (lexV_end (by rw [HSZ.out]; omega))))
    have hge : ¬ (k : Int) < (s.size : Int) := by omega
    have hlen : (closeV acc last).length ≤ 65537 := by
     cases last with
     | none => show acc.length ≤ 65537; omega
     | some t =>
      have e : closeV acc (some t) = if endsV t then acc ++ [⟨7, [], t.ed, t.ed⟩] else acc := rfl
      rw [e]; split
      · rw [List.length_append]; show acc.length + 1 ≤ 65537; omega
      · omega
    go_wp2_with (first | (go_at_call 153; refine HLN.out.mono ?_; rintro e w3 ⟨rfl, h3⟩; have HS3 := Lib.hid h3; obtain ⟨vL, hvL, hoL, hnL, _⟩ := h3.lcell; obtain ⟨sa, sn, sc, rfl⟩ := own_slice4 hoL; obtain ⟨l0, lz, ll⟩ := cell1 hvL; have HVL := Lib.hid hvL; have HOL := Lib.hid hoL; have HNL := Lib.hid hnL; clear h3 hvL hoL hnL))
    refine tokens_end (v := .slice sa sn sc) (p := 0) (er := 0) (set_heap HVL.out) ?_ rfl rfl rfl (HS3.out.below.setCell (p := ⟨w.heap.size, 0, none⟩) (Nat.le_refl _) _)
    unfold TokensOut; rw [HTK.out]; exact ⟨_, rfl, own_keep HOL.out (fun q hq => set_other (fun e => HNL.out (by first | rw [hq, e] | rw [hq, ← e]))), hlen⟩
theorem ltokens_long (s : ByteArray) (w : World) (hs : 65536 < s.size) :
  Calls Tryz.prog 135 #[.string s] w fun e w' => TokensOut w s.data.toList e w' ∧ Below w.heap.size w w' := by
 have htv : tokensV s.data.toList = .error (65536, 3) := by
  unfold tokensV; rw [if_pos (show 65536 < s.data.toList.length from hs)]
 have hgt : (65536 : Int) < (s.size : Int) := by omega
 have HTV := Lib.hid htv
 have hb0 : Below w.heap.size w (w.alloc (.cells #[.slice none 0 0] 125)) := (Below.refl _ _).alloc (Nat.le_refl _) _
 have hl0 : (w.alloc (.cells #[.slice none 0 0] 125)).heap[w.heap.size]? = some (.cells #[.slice none 0 0] 125 (0, 0)) := heap_alloc_new w _
 have HB0 := Lib.hid hb0
 have HL0 := Lib.hid hl0
 clear htv hb0 hl0
 go_enter Tryz.func135, Tryz.ntmps135
 go_wp2_with fail
 refine tokens_end (v := .slice none 0 0) (p := 65536) (er := 3) HL0.out ?_ rfl rfl rfl HB0.out
 unfold TokensOut; rw [HTV.out]
theorem ltokens_broken (s : ByteArray) (w : World) (hs : s.size ≤ 65536) (hG : LexG w) {k : Nat} (hbr : brkV s.data.toList 0 = some k) :
  Calls Tryz.prog 135 #[.string s] w fun e w' => TokensOut w s.data.toList e w' ∧ Below w.heap.size w w' := by
 have hsz : s.data.toList.length = s.size := rfl
 have hb0 : Below w.heap.size w (w.alloc (.cells #[.slice none 0 0] 125)) := (Below.refl _ _).alloc (Nat.le_refl _) _
 have hl0 : (w.alloc (.cells #[.slice none 0 0] 125)).heap[w.heap.size]? = some (.cells #[.slice none 0 0] 125 (0, 0)) := heap_alloc_new w _
 have hbk := lbroken s (w.alloc (.cells #[.slice none 0 0] 125)) (by omega) (hG.below ((Below.refl _ _).alloc (Nat.le_refl _) _)).u8
 rw [hbr] at hbk
 have HBK := Lib.hid (show Calls Tryz.prog 152 #[.string s] (w.alloc (.cells #[.slice none 0 0] 125)) fun e w' => e = .returned (.int .i64 (k : Int)) ∧ Below (w.alloc (.cells #[.slice none 0 0] 125)).heap.size (w.alloc (.cells #[.slice none 0 0] 125)) w' from hbk)
 have htv : tokensV s.data.toList = .error (k, 8) := by
  unfold tokensV; rw [if_neg (by rw [hsz]; omega), hbr]
 have hle : ¬ (65536 : Int) < (s.size : Int) := by omega
 have HTV := Lib.hid htv
 have HB0 := Lib.hid hb0
 have HL0 := Lib.hid hl0
 have hk0 : 0 ≤ (k : Int) := by omega
 clear hsz hb0 hl0 hG hbr hbk htv
 go_enter Tryz.func135, Tryz.ntmps135
 go_wp2_with (first | (go_at_call 152; refine HBK.out.mono ?_; rintro e w1 ⟨rfl, hb1⟩; obtain ⟨l0, lz, ll⟩ := cell1 (blk_below HL0.out hb1); have HB1 := Lib.hid hb1; clear hb1))
 refine tokens_end (v := .slice none 0 0) (p := k) (er := 8) (set_heap (blk_below HL0.out HB1.out)) ?_ rfl rfl rfl ((HB0.out.trans (HB1.out.mono HB0.out.size)).setCell (p := ⟨w.heap.size, 0, none⟩) (Nat.le_refl _) _)
 unfold TokensOut; rw [HTV.out]
theorem ltokensAll (s : ByteArray) (w : World) (hG : LexG w) :
  Calls Tryz.prog 135 #[.string s] w fun e w' => TokensOut w s.data.toList e w' ∧ Below w.heap.size w w' := by
 by_cases hs : 65536 < s.size
 · exact ltokens_long s w hs
 · cases hb : brkV s.data.toList 0 with
   | some k => exact ltokens_broken s w (by omega) hG hb
   | none => exact ltokens s w (by omega) hG hb
theorem own_tok {w : World} {B : Nat} {v : Value} {l : List Tk} {T : TypeId} (h : Own tkC 4 T w B v l) {i : Nat} {t : Tk} (ht : l[i]? = some t) :
  ∃ g cap, v = .slice (some ⟨g, 0, none⟩) l.length cap ∧ g < w.heap.size ∧ B ≤ g ∧ w.cell? ⟨g, i * 4, none⟩ = some (.int .i64 (t.kind : Int)) ∧ w.cell? ⟨g, i * 4 + 1, none⟩ = some (.string (toBA t.text)) ∧
   w.cell? ⟨g, i * 4 + 2, none⟩ = some (.int .i64 (t.fr : Int)) ∧ w.cell? ⟨g, i * 4 + 3, none⟩ = some (.int .i64 (t.ed : Int)) := by
 have hl : 0 < l.length := by have := (List.getElem?_eq_some_iff.1 ht).1; omega
 obtain ⟨A, c, hv, hr⟩ := Own.row tkC_len h
 obtain ⟨g, off, rfl, hg, hc⟩ := hr hl
 have hoff : off = 0 := by
  rcases h.2 with ⟨hv2, _⟩ | ⟨g2, cap, cur, hv2, _⟩
  · rw [hv] at hv2; injection hv2 with e1; cases e1
  · rw [hv] at hv2; injection hv2 with e1; injection e1 with e1; injection e1
 subst hoff
 have hB := (h.lt g (by rw [hv]; rfl)).1
 have k0 := hc i t ht 0 _ rfl
 have k1 := hc i t ht 1 _ rfl
 have k2 := hc i t ht 2 _ rfl
 have k3 := hc i t ht 3 _ rfl
 rw [Nat.zero_add] at k0 k1 k2 k3
 exact ⟨g, c, hv, hg, hB, k0, k1, k2, k3⟩
theorem tokens_yes (s : ByteArray) (w : World) (hG : LexG w) {l : List Tk} (h : tokensV s.data.toList = .ok l) :
  Calls Tryz.prog 135 #[.string s] w fun e w' => (∃ v, e = .returned (.tuple #[v, .int .i64 0, .int .i64 0]) ∧ Own tkC 4 128 w' w.heap.size v l) ∧ Below w.heap.size w w' := by
 refine (ltokensAll s w hG).mono ?_
 rintro e w' ⟨h1, h2⟩
 unfold TokensOut at h1
 rw [h] at h1
 obtain ⟨v, h3, h4, _⟩ := h1
 exact ⟨⟨v, h3, h4⟩, h2⟩
theorem tokens_no (s : ByteArray) (w : World) (hG : LexG w) {p : Nat} {er : Int} (h : tokensV s.data.toList = .error (p, er)) :
  Calls Tryz.prog 135 #[.string s] w fun e w' => e = .returned (.tuple #[.slice none 0 0, .int .i64 (p : Nat), .int .i64 er]) ∧ Below w.heap.size w w' := by
 refine (ltokensAll s w hG).mono ?_
 rintro e w' ⟨h1, h2⟩
 unfold TokensOut at h1
 rw [h] at h1
 exact ⟨h1, h2⟩
end Go.Proofs.YtacdfjlncfidgaaGreatDoor
