/- The lexer, plainly: what a text's tokens are. Of no program. The lexer's first steps: TrimLeft at a set, spelt, digits. spelt, Reserved, Name, Exported. The document's small tests; Reserved, Named, Exported of both. Reserved, Name, Exported of both. Name, Exported of both. -/
import Derived.Test.YtclbmmiedihepaaGreatDoorQA
import Derived.Test.YtclbmmiedihepaaGreatDoorQC
import Derived.Test.YtclbmmiedihepaaGreatDoorQShelf
import Derived.Test.YtclbmmiedihepaaGreatDoorQB
import Derived.Shelf.Strings.SlTrimAscii
namespace Go.Proofs.YtclbmmiedihepaaGreatDoor
section
set_option linter.unusedVariables false
set_option linter.unusedSimpArgs false
abbrev BL := List UInt8
def isLet (c : UInt8) : Bool := (decide (97 ≤ c.toNat) && decide (c.toNat ≤ 122)) || (decide (65 ≤ c.toNat) && decide (c.toNat ≤ 90)) || decide (c.toNat = 95)
def isLD (c : UInt8) : Bool := isLet c || isDig c
def isBl (c : UInt8) : Bool := decide (c.toNat = 32) || decide (c.toNat = 9) || decide (c.toNat = 13)
/-- How many letters and digits a text begins with, a letter first. -/
def speltN (L : BL) : Nat := match L with
 | [] => 0
 | c :: _ => if isLet c then (L.takeWhile isLD).length else 0
/-- What stands behind an exponent's e: how long its sign is. -/
def sgN (p : BL) : Nat := match p with
 | [] => 0
 | c :: _ => if c.toNat = 43 ∨ c.toNat = 45 then 1 else 0
/-- How long an exponent is that a text begins with; 0: none. -/
def expN (r : BL) : Nat := match r with
 | [] => 0
 | c :: p => if c.toNat = 101 then (if digN (p.drop (sgN p)) = 0 then 0 else 1 + sgN p + digN (p.drop (sgN p))) else 0
/-- The kind and the length of the number that a text begins with. -/
def numN (L : BL) : Nat × Nat :=
 if digN L = 0 ∨ L[digN L]? ≠ some 46 ∨ digN (L.drop (digN L + 1)) = 0 then (3, digN L)
 else (4, digN L + 1 + digN (L.drop (digN L + 1)) + expN (L.drop (digN L + 1 + digN (L.drop (digN L + 1)))))
/-- A hex digit's number. -/
def hexV (c : UInt8) : Option Nat := if isDig c then some (c.toNat - 48) else if 97 ≤ c.toNat ∧ c.toNat ≤ 102 then some (c.toNat - 87) else none
/-- The byte that stands behind a backslash, and of how many. -/
def escV (L : BL) : Option (UInt8 × Nat) := match L with
 | [] => none
 | c :: r => if c.toNat = 110 then some (10, 1) else if c.toNat = 116 then some (9, 1) else if c.toNat = 34 ∨ c.toNat = 92 then some (c, 1)
  else if c.toNat = 120 then (match r with
   | a :: b :: _ => (match hexV a, hexV b with
    | some h, some l => some (UInt8.ofNat (h * 16 + l), 3)
    | _, _ => none)
   | _ => none)
  else none
theorem escV_pos {L : BL} {x : UInt8} {n : Nat} (h : escV L = some (x, n)) : 0 < n ∧ n ≤ 3 ∧ n ≤ L.length := by
 unfold escV at h
 split at h
 · cases h
 · split at h
   · cases h; simp
   · split at h
     · cases h; simp
     · split at h
       · cases h; simp
       · split at h
         · split at h
           · split at h
             · cases h; simp
             · cases h
           · cases h
         · cases h
/-- The value of a string's literal from a place on, of what has been gathered, and where it ends. -/
def quotAt (L : BL) (i : Nat) (b : BL) : Option (BL × Nat) :=
 if hi : i < L.length then
  if (L[i]).toNat = 34 then some (b, i + 1)
  else if (L[i]).toNat < 32 ∨ (L[i]).toNat = 127 then none
  else if (L[i]).toNat = 92 then
   match escV (L.drop (i + 1)) with
   | none => none
   | some (x, n) => quotAt L (i + 1 + n) (b ++ [x])
  else quotAt L (i + 1) (b ++ [L[i]])
 else none
termination_by L.length - i
def quotV (L : BL) : Option (BL × Nat) := match L with
 | [] => none
 | c :: _ => if c.toNat = 34 then quotAt L 1 [] else none
/-- The reserved words. -/
def resW : List BL := [[98,114,101,97,107],[99,111,110,116,105,110,117,101],[101,108,115,101],[102,97,108,115,101],[102,108,111,97,116,54,52],[102,111,114],[102,117,110,99],[105,102],[105,109,112,111,114,116],[105,110,116],[98,111,111,108],[115,116,114,105,110,103],[108,101,110],[112,97,99,107,97,103,101],[112,97,110,105,99],[112,114,105,110,116],[114,101,116,117,114,110],[115,116,114,117,99,116],[116,114,117,101],[116,121,112,101],[118,97,114]]
/-- What a line may end with, of these. -/
def endW : List BL := [[116,114,117,101],[102,97,108,115,101],[114,101,116,117,114,110],[98,114,101,97,107],[99,111,110,116,105,110,117,101],[105,110,116],[98,111,111,108],[115,116,114,105,110,103],[102,108,111,97,116,54,52]]
def marks2 : List BL := [[61,61],[33,61],[60,61],[62,61],[38,38],[124,124],[58,61]]
def marks1 : List BL := [[43],[45],[42],[47],[37],[60],[62],[33],[61],[40],[41],[123],[125],[44],[46],[58]]
/-- How long the longest mark is that a text begins with. -/
def markN (L : BL) : Nat := if marks2.any (fun m => m.isPrefixOf L) then 2 else if marks1.any (fun m => m.isPrefixOf L) then 1 else 0
/-- The error of a whole literal. -/
def errI (L : BL) : Int := if natV L then (if valD 0 L ≤ 9223372036854775807 then 0 else 3) else 4
/-- The token that a text begins with: its error, its kind, its length. -/
def takeV (eF : BL → Int) (L : BL) : Int × Nat × Nat :=
 if 0 < speltN L then
  (if resW.contains (L.take (speltN L)) then (0, 2, speltN L) else if 40 < speltN L then (3, 1, speltN L) else if L.take (speltN L) = [95] then (9, 1, speltN L) else (0, 1, speltN L))
 else if 0 < (numN L).2 then
  ((if (numN L).1 = 3 then errI (L.take (numN L).2) else eF (L.take (numN L).2)), (numN L).1, (numN L).2)
 else match quotV L with
  | some (v, n) => ((if 4096 < v.length then 3 else 0), 5, n)
  | none => if L.head? = some 59 then (0, 7, 1) else if 0 < markN L then (0, 6, markN L) else (4, 0, 0)
/-- A token. -/
structure Tk where
 kind : Nat
 text : BL
 fr : Nat
 ed : Nat
 deriving DecidableEq, Inhabited
def endsV (t : Tk) : Bool := decide (t.kind = 1) || decide (t.kind = 3) || decide (t.kind = 4) || decide (t.kind = 5) || (decide (t.kind = 2) && endW.contains t.text) || (decide (t.kind = 6) && (decide (t.text = [41]) || decide (t.text = [125])))
/-- At a line's end. -/
def closeV (l : List Tk) (last : Option Tk) : List Tk := match last with
 | none => l
 | some t => if endsV t then l ++ [⟨7, [], t.ed, t.ed⟩] else l
def comN (L : BL) : Nat := (L.takeWhile (fun c => decide (c.toNat ≠ 10))).length
/-- The tokens of a text from a place on, of those that have been gathered; or the place and the error. -/
def lexV (eF : BL → Int) (L : BL) (at_ : Nat) (acc : List Tk) (last : Option Tk) : Except (Nat × Int) (List Tk) :=
 match h : L.drop at_ with
 | [] => .ok (closeV acc last)
 | c :: r =>
  if isBl c then lexV eF L (at_ + 1) acc last
  else if c.toNat = 10 then lexV eF L (at_ + 1) (closeV acc last) none
  else if c.toNat = 47 ∧ r.head? = some 47 then lexV eF L (at_ + 1 + comN r) acc last
  else if hn : (takeV eF (c :: r)).1 = 0 ∧ 0 < (takeV eF (c :: r)).2.2 then
   lexV eF L (at_ + (takeV eF (c :: r)).2.2) (acc ++ [⟨(takeV eF (c :: r)).2.1, (c :: r).take (takeV eF (c :: r)).2.2, at_, at_ + (takeV eF (c :: r)).2.2⟩]) (some ⟨(takeV eF (c :: r)).2.1, (c :: r).take (takeV eF (c :: r)).2.2, at_, at_ + (takeV eF (c :: r)).2.2⟩)
  else .error (at_, (takeV eF (c :: r)).1)
termination_by L.length - at_
decreasing_by
 all_goals
  have hl : (L.drop at_).length = (c :: r).length := by rw [h]
  rw [List.length_drop, List.length_cons] at hl
  omega
end

section
open Go.RowKit
set_option linter.unusedVariables false
set_option linter.unusedSimpArgs false
theorem all_u8 {p q : UInt8 → Bool} (h : ∀ n : Fin 256, p (UInt8.ofNat n) = q (UInt8.ofNat n)) : p = q := by
 funext c
 have := h ⟨c.toNat, UInt8.toNat_lt c⟩
 simpa using this
theorem indexB_mem (l : List UInt8) (c : UInt8) : decide (Lib.indexByte l c < 0) = !l.contains c := by
 induction l with
 | nil => rfl
 | cons b l ih =>
  unfold Lib.indexByte
  have hge := Lib.indexByte_ge l c
  by_cases h : b = c
  · subst h; simp
  · have h1 : (b == c) = false := by simpa using h
    have h2 : (c == b) = false := by simpa using fun e => h e.symm
    rw [h1, List.contains_cons, h2, Bool.false_or, ← ih]
    by_cases h3 : Lib.indexByte l c = -1
    · rw [h3]; rfl
    · have h4 : (Lib.indexByte l c == -1) = false := by simpa using h3
      rw [h4]
      simp only [Bool.false_eq_true, if_false]
      congr 1
      simp only [eq_iff_iff]
      omega
def lettersB : ByteArray := ⟨#[65, 66, 67, 68, 69, 70, 71, 72, 73, 74, 75, 76, 77, 78, 79, 80, 81, 82, 83, 84, 85, 86, 87, 88, 89, 90, 97, 98, 99, 100, 101, 102, 103, 104, 105, 106, 107, 108, 109, 110, 111, 112, 113, 114, 115, 116, 117, 118, 119, 120, 121, 122, 95]⟩
def lettersD : ByteArray := ⟨#[65, 66, 67, 68, 69, 70, 71, 72, 73, 74, 75, 76, 77, 78, 79, 80, 81, 82, 83, 84, 85, 86, 87, 88, 89, 90, 97, 98, 99, 100, 101, 102, 103, 104, 105, 106, 107, 108, 109, 110, 111, 112, 113, 114, 115, 116, 117, 118, 119, 120, 121, 122, 95, 48, 49, 50, 51, 52, 53, 54, 55, 56, 57]⟩
def figuresB : ByteArray := ⟨#[48, 49, 50, 51, 52, 53, 54, 55, 56, 57]⟩
theorem letters_is : (lettersB.data.toList.contains ·) = isLet := all_u8 (by decide +kernel)
theorem lettersD_is : (lettersD.data.toList.contains ·) = isLD := all_u8 (by decide +kernel)
theorem figures_is : (figuresB.data.toList.contains ·) = isDig := all_u8 (by decide +kernel)
theorem ascii_of (cs : ByteArray) (h : cs.data.toList.all (fun b => decide (b.toNat < 128)) = true) : ∀ (j : Nat) b, cs.data.toList[j]? = some b → b.toNat < 128 := fun j b hb => by
 have := List.all_eq_true.1 h b (List.mem_of_getElem? hb)
 simpa using this
theorem toList_nil {s : ByteArray} (h : s.size = 0) : s.toList = [] := by
 rw [ByteArray.toList_eq]; exact List.eq_nil_of_length_eq_zero h
theorem toList_ne {s : ByteArray} (h : 0 < s.size) : ¬ s.toList = [] := by
 rw [ByteArray.toList_eq]; intro e
 have : s.data.toList.length = s.size := rfl
 rw [e] at this; simp at this; omega
theorem zero122 : Tryz.zeroCells122 = Array.replicate 256 (.bool false) := by kernel_rfl
theorem trimL (s cs : ByteArray) (w : World) (h2 : 2 ≤ cs.size) (hcs : cs.size < 4294967281) (ha : cs.data.toList.all (fun b => decide (b.toNat < 128)) = true) :
  Calls Tryz.prog 64 #[.string s, .string cs] w fun e w' => e = .returned (.string ⟨(s.data.toList.dropWhile (cs.data.toList.contains ·)).toArray⟩) ∧ Below w.heap.size w w' := by
 by_cases h0 : 0 < s.size
 · refine (Any.strings_TrimLeft_set Tryz.lays161 (fun w => (Tryz.zeroValue122 w).trans (by rw [zero122])) (by kernel_rfl) s cs w h2 h0 hcs (ascii_of cs ha)).mono ?_
   rintro e w' ⟨rfl, rfl⟩
   exact ⟨rfl, ((Below.refl _ _).alloc (Nat.le_refl _) _).alloc (by rw [World.size_alloc]; omega) _⟩
 · have hz : s.size = 0 := by omega
   have t1 := toList_nil hz
   have hd : s.data.toList = [] := List.eq_nil_of_length_eq_zero hz
   have hs : s = ⟨#[]⟩ := by
    have : s.data = #[] := Array.toList_inj.1 (by simpa using hd)
    cases s; simp_all
   subst hs
   go_enter Tryz.func64, Tryz.ntmps64
   go_wp2_with fail
   go_ret
   exact ⟨rfl, Below.refl _ _⟩
theorem takeW_len {p : UInt8 → Bool} (l : List UInt8) : (l.dropWhile p).length + (l.takeWhile p).length = l.length := by
 have := congrArg List.length (List.takeWhile_append_dropWhile (p := p) (l := l))
 rw [List.length_append] at this; omega
/-- lexer.digits. -/
theorem ldigits (s : ByteArray) (w : World) (hs : s.size ≤ 9223372036854775807) :
  Calls Tryz.prog 77 #[.string s] w fun e w' => e = .returned (.int .i64 (digN s.data.toList)) ∧ Below w.heap.size w w' := by
 have HT := Lib.hid (trimL s figuresB w (by decide) (by decide) (by decide +kernel))
 have hl := takeW_len (p := isDig) s.data.toList
 rw [figures_is] at HT
 have hsz : s.data.toList.length = s.size := rfl
 have hd : digN s.data.toList = (s.data.toList.takeWhile isDig).length := rfl
 obtain ⟨r, hr⟩ : ∃ r : ByteArray, ⟨(s.data.toList.dropWhile isDig).toArray⟩ = r := ⟨_, rfl⟩
 have hrs : r.size = s.size - digN s.data.toList := by
  rw [← hr, hd]; show (s.data.toList.dropWhile isDig).toArray.size = _
  rw [List.size_toArray]; omega
 have hdl : digN s.data.toList ≤ s.size := digN_le _
 rw [hr] at HT
 generalize digN s.data.toList = D at *
 clear hl hd hr hsz
 unfold figuresB at HT
 go_enter Tryz.func77, Tryz.ntmps77
 go_wp2_with (go_at_call 64; refine HT.out.mono ?_; rintro e w' ⟨rfl, hb⟩)
 go_ret
 exact ⟨ret_int (by omega), hb⟩
end

section
open Go.RowKit
set_option linter.unusedVariables false
set_option linter.unusedSimpArgs false
theorem u8_back (x : UInt8) : (x.toNat : Int).toNat.toUInt8 = x := by simp
theorem idx_in (cs : ByteArray) (x : UInt8) (w : World) (h : cs.data.toList.contains x = true) :
  Calls Tryz.prog 28 #[.string cs, .int .u8 (x.toNat : Int)] w fun e w' => (∃ i : Int, e = .returned (.int .i64 i) ∧ ¬ i < 0) ∧ w' = w := by
 refine (Tryz.strings_IndexByte cs (x.toNat : Int) w).mono ?_
 rintro e w' ⟨rfl, rfl⟩
 refine ⟨⟨_, rfl, ?_⟩, rfl⟩
 have := indexB_mem cs.data.toList x
 rw [h] at this
 rw [u8_back]
 simpa using this
theorem idx_out (cs : ByteArray) (x : UInt8) (w : World) (h : cs.data.toList.contains x = false) :
  Calls Tryz.prog 28 #[.string cs, .int .u8 (x.toNat : Int)] w fun e w' => (∃ i : Int, e = .returned (.int .i64 i) ∧ i < 0) ∧ w' = w := by
 refine (Tryz.strings_IndexByte cs (x.toNat : Int) w).mono ?_
 rintro e w' ⟨rfl, rfl⟩
 refine ⟨⟨_, rfl, ?_⟩, rfl⟩
 have := indexB_mem cs.data.toList x
 rw [h] at this
 rw [u8_back]
 simpa using this
theorem hd_cons {s : ByteArray} (h : 0 < s.size) : ∃ c r, s.data.toList = c :: r ∧ s[0] = c := by
 have hl : s.data.toList.length = s.size := rfl
 cases hd : s.data.toList with
 | nil => rw [hd] at hl; simp at hl; omega
 | cons c r =>
  refine ⟨c, r, rfl, ?_⟩
  have : s.data.toList[0]? = some s[0] := by rw [List.getElem?_eq_getElem (by rw [hl]; exact h)]; rfl
  rw [hd] at this
  simpa using this.symm
theorem isLet_in {c : UInt8} (b : Bool) (h : isLet c = b) : lettersB.data.toList.contains c = b :=
 (congrFun letters_is c).trans h
theorem lspelt (s : ByteArray) (w : World) (hs : s.size ≤ 9223372036854775807) :
  Calls Tryz.prog 36 #[.string s] w fun e w' => e = .returned (.int .i64 (speltN s.data.toList)) ∧ Below w.heap.size w w' := by
 by_cases h0 : 0 < s.size
 · obtain ⟨c, r, hd, hc⟩ := hd_cons h0
   have t1 := toList_ne h0
   have t3 : s.toList.isEmpty = false := by simpa using t1
   by_cases hL : isLet c = true
   · have HI := Lib.hid (idx_in lettersB c w (isLet_in _ hL))
     have HT := Lib.hid (trimL s lettersD w (by decide) (by decide) (by decide +kernel))
     rw [lettersD_is] at HT
     have hsp : speltN s.data.toList = (s.data.toList.takeWhile isLD).length := by
      rw [hd]; exact if_pos hL
     have hl := takeW_len (p := isLD) s.data.toList
     have hsz : s.data.toList.length = s.size := rfl
     obtain ⟨r, hr⟩ : ∃ r : ByteArray, ⟨(s.data.toList.dropWhile isLD).toArray⟩ = r := ⟨_, rfl⟩
     have hrs : r.size + speltN s.data.toList = s.size := by
      rw [← hr, hsp]; show (s.data.toList.dropWhile isLD).toArray.size + _ = _
      rw [List.size_toArray]; omega
     rw [hr] at HT
     generalize speltN s.data.toList = D at *
     clear hl hr hsz hsp hd hL
     unfold lettersB at HI
     unfold lettersD at HT
     go_enter Tryz.func36, Tryz.ntmps36
     go_wp2_with (first
      | (go_at_call 28; refine HI.out.mono ?_; rintro e w' ⟨⟨i, rfl, hi⟩, rfl⟩)
      | (go_at_call 64; refine HT.out.mono ?_; rintro e w' ⟨rfl, hb⟩))
     go_ret
     exact ⟨ret_int (by omega), hb⟩
   · have hL2 : isLet c = false := by simpa using hL
     have HI := Lib.hid (idx_out lettersB c w (isLet_in _ hL2))
     have hsp : speltN s.data.toList = 0 := by rw [hd]; exact if_neg hL
     rw [hsp]
     clear hsp hd hL hL2
     unfold lettersB at HI
     go_enter Tryz.func36, Tryz.ntmps36
     go_wp2_with (first
      | (go_at_call 28; refine HI.out.mono ?_; rintro e w' ⟨⟨i, rfl, hi⟩, rfl⟩))
     go_ret
     exact ⟨rfl, Below.refl _ _⟩
 · have hz : s.size = 0 := by omega
   have t1 := toList_nil hz
   have t3 : s.toList.isEmpty = true := by rw [t1]; rfl
   have hd : s.data.toList = [] := List.eq_nil_of_length_eq_zero hz
   have hsp : speltN s.data.toList = 0 := by rw [hd]; rfl
   rw [hsp]
   go_enter Tryz.func36, Tryz.ntmps36
   go_wp2_with fail
   go_ret
   exact ⟨rfl, Below.refl _ _⟩
theorem lwords (w : World) : Calls Tryz.prog 38 #[] w fun e w' => e = .returned (.slice (some ⟨w.heap.size, 0, none⟩) 21 21) ∧ w' = w.alloc (.cells (resW.map fun l => Value.string ⟨l.toArray⟩).toArray 9) := by
 go_enter Tryz.func38, Tryz.ntmps38
 go_wp2_with fail
 go_ret
 exact ⟨rfl, rfl⟩
end

section
open Go.RowKit
set_option linter.unusedVariables false
set_option linter.unusedSimpArgs false
/-- Is there a byte at a place, that is so? -/
def atB (p : UInt8 → Bool) (L : BL) (i : Nat) : Bool := match L[i]? with
 | some c => p c
 | none => false
theorem atB_out {p : UInt8 → Bool} {L : BL} {i : Nat} (h : L.length ≤ i) : atB p L i = false := by unfold atB; rw [List.getElem?_eq_none h]
theorem atB_in {p : UInt8 → Bool} {s : ByteArray} {i : Nat} (h : i < s.size) : atB p s.data.toList i = p s[i] := by
 have hl : s.data.toList.length = s.size := rfl
 unfold atB; rw [List.getElem?_eq_getElem (by rw [hl]; exact h)]; rfl
theorem rletter (s : ByteArray) (i : Nat) (w : World) (hs : s.size ≤ 9223372036854775807) (hi : i ≤ 9223372036854775807) :
  Calls Tryz.prog 43 #[.string s, .int .i64 (i : Int)] w fun e w' => e = .returned (.bool (atB isLet s.data.toList i)) ∧ w' = w := by
 by_cases hlt : i < s.size
 · rw [atB_in hlt]
   obtain ⟨c, hc⟩ : ∃ c, s[i] = c := ⟨_, rfl⟩
   rw [hc]
   have hlt2 : (i : Int) < (s.size : Int) := by omega
   by_cases a1 : 97 ≤ c.toNat
   · have b1 : (97 : Int) ≤ (c.toNat : Int) := by omega
     by_cases a2 : c.toNat ≤ 122
     · have b2 : (c.toNat : Int) ≤ 122 := by omega
       have hv : isLet c = true := by simp [isLet, a1, a2]
       rw [hv]
       go_enter Tryz.func43, Tryz.ntmps43
       go_wp2_with fail
       go_ret
       exact ⟨rfl, rfl⟩
     · have b2 : ¬ (c.toNat : Int) ≤ 122 := by omega
       have b3 : (65 : Int) ≤ (c.toNat : Int) := by omega
       have b4 : ¬ (c.toNat : Int) ≤ 90 := by omega
       have b5 : ((c.toNat : Int) == 95) = false := beq_eq_false_iff_ne.2 (by omega)
       have hv : isLet c = false := by simp [isLet]; omega
       rw [hv]
       go_enter Tryz.func43, Tryz.ntmps43
       go_wp2_with fail
       go_ret
       exact ⟨rfl, rfl⟩
   · have b1 : ¬ (97 : Int) ≤ (c.toNat : Int) := by omega
     by_cases a3 : 65 ≤ c.toNat
     · have b3 : (65 : Int) ≤ (c.toNat : Int) := by omega
       by_cases a4 : c.toNat ≤ 90
       · have b4 : (c.toNat : Int) ≤ 90 := by omega
         have hv : isLet c = true := by simp [isLet, a3, a4]
         rw [hv]
         go_enter Tryz.func43, Tryz.ntmps43
         go_wp2_with fail
         go_ret
         exact ⟨rfl, rfl⟩
       · have b4 : ¬ (c.toNat : Int) ≤ 90 := by omega
         by_cases a5 : c.toNat = 95
         · have b5 : (c.toNat : Int) = 95 := by omega
           have hv : isLet c = true := by simp [isLet, a5]
           rw [hv]
           go_enter Tryz.func43, Tryz.ntmps43
           go_wp2_with fail
           go_ret
           exact ⟨rfl, rfl⟩
         · have b5 : ((c.toNat : Int) == 95) = false := beq_eq_false_iff_ne.2 (by omega)
           have hv : isLet c = false := by simp [isLet]; omega
           rw [hv]
           go_enter Tryz.func43, Tryz.ntmps43
           go_wp2_with fail
           go_ret
           exact ⟨rfl, rfl⟩
     · have b3 : ¬ (65 : Int) ≤ (c.toNat : Int) := by omega
       have b5 : ((c.toNat : Int) == 95) = false := beq_eq_false_iff_ne.2 (by omega)
       have hv : isLet c = false := by simp [isLet]; omega
       rw [hv]
       go_enter Tryz.func43, Tryz.ntmps43
       go_wp2_with fail
       go_ret
       exact ⟨rfl, rfl⟩
 · have hlt2 : ¬ (i : Int) < (s.size : Int) := by omega
   rw [atB_out (by show s.size ≤ i; omega)]
   go_enter Tryz.func43, Tryz.ntmps43
   go_wp2_with fail
   go_ret
   exact ⟨rfl, rfl⟩
theorem rdigit (s : ByteArray) (i : Nat) (w : World) (hs : s.size ≤ 9223372036854775807) (hi : i ≤ 9223372036854775807) :
  Calls Tryz.prog 44 #[.string s, .int .i64 (i : Int)] w fun e w' => e = .returned (.bool (atB isDig s.data.toList i)) ∧ w' = w := by
 by_cases hlt : i < s.size
 · rw [atB_in hlt]
   obtain ⟨c, hc⟩ : ∃ c, s[i] = c := ⟨_, rfl⟩
   rw [hc]
   have hlt2 : (i : Int) < (s.size : Int) := by omega
   by_cases a1 : 48 ≤ c.toNat
   · have b1 : (48 : Int) ≤ (c.toNat : Int) := by omega
     by_cases a2 : c.toNat ≤ 57
     · have b2 : (c.toNat : Int) ≤ 57 := by omega
       have hv : isDig c = true := by simp [isDig, a1, a2]
       rw [hv]
       go_enter Tryz.func44, Tryz.ntmps44
       go_wp2_with fail
       go_ret
       exact ⟨rfl, rfl⟩
     · have b2 : ¬ (c.toNat : Int) ≤ 57 := by omega
       have hv : isDig c = false := by simp [isDig]; omega
       rw [hv]
       go_enter Tryz.func44, Tryz.ntmps44
       go_wp2_with fail
       go_ret
       exact ⟨rfl, rfl⟩
   · have b1 : ¬ (48 : Int) ≤ (c.toNat : Int) := by omega
     have hv : isDig c = false := by simp [isDig]; omega
     rw [hv]
     go_enter Tryz.func44, Tryz.ntmps44
     go_wp2_with fail
     go_ret
     exact ⟨rfl, rfl⟩
 · have hlt2 : ¬ (i : Int) < (s.size : Int) := by omega
   rw [atB_out (by show s.size ≤ i; omega)]
   go_enter Tryz.func44, Tryz.ntmps44
   go_wp2_with fail
   go_ret
   exact ⟨rfl, rfl⟩
theorem ris (s : ByteArray) (i : Nat) (x : UInt8) (w : World) (hs : s.size ≤ 9223372036854775807) (hi : i ≤ 9223372036854775807) :
  Calls Tryz.prog 34 #[.string s, .int .i64 (i : Int), .int .u8 (x.toNat : Int)] w fun e w' => e = .returned (.bool (atB (· == x) s.data.toList i)) ∧ w' = w := by
 by_cases hlt : i < s.size
 · rw [atB_in hlt]
   obtain ⟨c, hc⟩ : ∃ c, s[i] = c := ⟨_, rfl⟩
   rw [hc]
   have hlt2 : (i : Int) < (s.size : Int) := by omega
   by_cases h : c = x
   · subst h
     have b1 : (c == c) = true := by simp
     rw [b1]
     go_enter Tryz.func34, Tryz.ntmps34
     go_wp2_with fail
     go_ret
     exact ⟨rfl, rfl⟩
   · have b1 : (c == x) = false := by simpa using h
     have b2 : ((c.toNat : Int) == (x.toNat : Int)) = false := beq_eq_false_iff_ne.2 (fun e => h (UInt8.toNat_inj.1 (by omega)))
     rw [b1]
     go_enter Tryz.func34, Tryz.ntmps34
     go_wp2_with fail
     go_ret
     exact ⟨rfl, rfl⟩
 · have hlt2 : ¬ (i : Int) < (s.size : Int) := by omega
   rw [atB_out (by show s.size ≤ i; omega)]
   go_enter Tryz.func34, Tryz.ntmps34
   go_wp2_with fail
   go_ret
   exact ⟨rfl, rfl⟩
end

section
open Go.RowKit
set_option linter.unusedVariables false
set_option linter.unusedSimpArgs false
def toBA (l : BL) : ByteArray := ⟨l.toArray⟩
theorem toBA_list (l : BL) : (toBA l).data.toList = l := by simp [toBA]
theorem toBA_eta (s : ByteArray) : toBA s.data.toList = s := by cases s; simp [toBA]
/-- Is a text one of some? -/
def hasB (l : List BL) (x : BL) : Bool := l.contains x
theorem contains_ba (l : List BL) (x : ByteArray) : Lib.containsS (l.map toBA) x = hasB l x.data.toList := by
 unfold hasB
 rw [Bool.eq_iff_iff, Lib.containsS_iff, List.contains_iff_mem]
 constructor
 · intro h
   obtain ⟨y, hy, e⟩ := List.mem_map.1 h
   rw [← e, toBA_list]; exact hy
 · intro h
   exact List.mem_map.2 ⟨_, h, toBA_eta x⟩
theorem cells_ba (l : List BL) (w : World) (b : Nat) (h : w.heap[b]? = some (.cells (l.map fun l => Value.string ⟨l.toArray⟩).toArray 9 (0, 0))) : ∀ j, j < (l.map toBA).length → w.cell? ⟨b, 0 + j, none⟩ = some (.string ((l.map toBA).getD j ByteArray.empty)) := fun j hj => by
 rw [cell_of_row _ _ _ _ _ _ h, Nat.zero_add]
 rw [List.length_map] at hj
 rw [List.getElem?_toArray, List.getElem?_map, List.getElem?_eq_getElem hj, List.getD_eq_getElem?_getD, List.getElem?_map, List.getElem?_eq_getElem hj]
 rfl
theorem lReserved (s : ByteArray) (w : World) : Calls Tryz.prog 15 #[.string s] w fun e w' => e = .returned (.bool (hasB resW s.data.toList)) ∧ Below w.heap.size w w' := by
 have HW := Lib.hid (lwords w)
 have hb : (w.alloc (.cells (resW.map fun l => Value.string ⟨l.toArray⟩).toArray 9)).heap[w.heap.size]? = some (.cells (resW.map fun l => Value.string ⟨l.toArray⟩).toArray 9 (0, 0)) := heap_alloc_new w _
 have hc := Tryz.slices_Contains_string w.heap.size 0 21 21 (resW.map toBA) s (w.alloc (.cells (resW.map fun l => Value.string ⟨l.toArray⟩).toArray 9)) (by decide) (by decide) (cells_ba resW _ _ hb)
 rw [show (resW.map toBA).take 21 = resW.map toBA from List.take_of_length_le (by decide), contains_ba] at hc
 have HC := Lib.hid hc
 have HB := Lib.hid ((Below.refl w.heap.size w).alloc (Nat.le_refl _) (.cells (resW.map fun l => Value.string ⟨l.toArray⟩).toArray 9))
 clear hb hc
 go_enter Tryz.func15, Tryz.ntmps15
 go_wp2_with (first
  | (go_at_call 38; refine HW.out.mono ?_; rintro e w' ⟨rfl, rfl⟩)
  | (go_at_call 37; refine HC.out.mono ?_; rintro e w' ⟨rfl, rfl⟩))
 go_ret
 exact ⟨rfl, HB.out⟩
/-- A row of strings in a block. -/
theorem rhas (l : List BL) (b off c : Nat) (s : ByteArray) (w : World) (hl : l.length ≤ 1000) (h : ∀ j x, l[j]? = some x → w.cell? ⟨b, off + j, none⟩ = some (.string (toBA x))) :
  Calls Tryz.prog 42 #[.slice (some ⟨b, off, none⟩) l.length c, .string s] w fun e w' => e = .returned (.bool (hasB l s.data.toList)) ∧ ∃ q, w' = w.drewN q := by
 have HH := Lib.hid h
 clear h
 go_enter Tryz.func42, Tryz.ntmps42
 go_wp2_with fail
 go_loopw [5] (fun i wr => ∃ j : Nat, j ≤ l.length ∧ i = .int .i64 j ∧ (∀ j' x, l[j']? = some x → j' < j → x ≠ s.data.toList) ∧ ∃ q, wr = w.drewN q) (fun i _ => l.length - (intOf i).toNat)
 case atStart => exact ⟨0, Nat.zero_le _, rfl, fun j _ _ h => absurd h (Nat.not_lt_zero _), 0, rfl⟩
 case round =>
  obtain ⟨j, hj, rfl, hno, q, rfl⟩ := hrel
  have HNO := Lib.hid hno
  clear hno
  by_cases hlt : j < l.length
  · obtain ⟨x, hx⟩ : ∃ x, l[j]? = some x := ⟨_, List.getElem?_eq_getElem hlt⟩
    have hc : (w.drewN q).cell? ⟨b, off + j, none⟩ = some (.string (toBA x)) := HH.out j x hx
    have HX := Lib.hid hx
    clear hx
    by_cases he : x = s.data.toList
    · have e1 : (toBA x).toList = s.toList := by rw [he, toBA_eta]
      have e2 : ((toBA x).toList == s.toList) = true := by rw [e1]; simp
      generalize toBA x = y at hc e1 e2
      have hv : hasB l s.data.toList = true := by unfold hasB; rw [List.contains_iff_mem, ← he]; exact List.mem_of_getElem? HX.out
      have HVV := Lib.hid hv
      clear hv he
      go_wp2_with fail
      go_ret
      exact ⟨ret_bool HVV.out.symm, _, rfl⟩
    · have e1 : ¬ (toBA x).toList = s.toList := fun e => he (by rw [ByteArray.toList_eq, ByteArray.toList_eq, toBA_list] at e; exact e)
      have e2 : ((toBA x).toList == s.toList) = false := by simpa using e1
      have HE := Lib.hid he
      clear he
      go_wp2_with fail
      go_roundw
      case rel => exact ⟨j + 1, by omega, by go_num, fun j' z hz hj' => by
       rcases Nat.lt_or_ge j' j with h1 | h1
       · exact HNO.out j' z hz h1
       · obtain rfl : j' = j := by omega
         have e := HX.out
         rw [hz] at e
         cases e
         exact HE.out, q, rfl⟩
      case measure => simp only [intOf]; omega
  · have hv : hasB l s.data.toList = false := by
     unfold hasB
     rw [Bool.eq_false_iff]; intro hm
     rw [List.contains_iff_mem] at hm
     obtain ⟨j', hj', e⟩ := List.getElem_of_mem hm
     exact HNO.out j' _ (by rw [List.getElem?_eq_getElem hj', e]) (by omega) rfl
    have HVV := Lib.hid hv
    clear hv
    go_wp2_with fail
    go_ret
    exact ⟨ret_bool HVV.out.symm, _, rfl⟩
theorem cells_of_new (l : List BL) (w : World) : ∀ j x, l[j]? = some x → (w.alloc (.cells (l.map fun l => Value.string ⟨l.toArray⟩).toArray 9)).cell? ⟨w.heap.size, 0 + j, none⟩ = some (.string (toBA x)) := fun j x hx => by
 rw [cell_of_row _ _ _ _ _ _ (heap_alloc_new w _), Nat.zero_add, List.getElem?_toArray, List.getElem?_map, hx]; rfl
theorem rReserved (s : ByteArray) (w : World) : Calls Tryz.prog 18 #[.string s] w fun e w' => e = .returned (.bool (hasB resW s.data.toList)) ∧ Below w.heap.size w w' := by
 have HC := Lib.hid (rhas resW w.heap.size 0 21 s _ (by decide) (cells_of_new resW w))
 have HB := Lib.hid ((Below.refl w.heap.size w).alloc (Nat.le_refl _) (.cells (resW.map fun l => Value.string ⟨l.toArray⟩).toArray 9))
 go_enter Tryz.func18, Tryz.ntmps18
 go_wp2_with (first
  | (go_at_call 42; refine HC.out.mono ?_; rintro e w' ⟨rfl, q, rfl⟩))
 go_ret
 exact ⟨rfl, below_draws HB.out q⟩
end

section
open Go.RowKit
set_option linter.unusedVariables false
set_option linter.unusedSimpArgs false
/-- Is a text a name? -/
def nameV (L : BL) : Bool := !L.isEmpty && decide (speltN L = L.length) && decide (L.length ≤ 40) && !decide (L = [95]) && !hasB resW L
def expV (L : BL) : Bool := nameV L && (match L with | [] => false | c :: _ => decide (65 ≤ c.toNat) && decide (c.toNat ≤ 90))
theorem und_is (s : ByteArray) : (s.toList = [95]) ↔ s.data.toList = [95] := by rw [ByteArray.toList_eq]
theorem lName (s : ByteArray) (w : World) (hs : s.size ≤ 9223372036854775807) :
  Calls Tryz.prog 14 #[.string s] w fun e w' => e = .returned (.bool (nameV s.data.toList)) ∧ Below w.heap.size w w' := by
 have hsz : s.data.toList.length = s.size := rfl
 by_cases h0 : 0 < s.size
 · have t1 := toList_ne h0
   have t3 : s.toList.isEmpty = false := by simpa using t1
   have t4 : s.data.toList.isEmpty = false := by rw [← ByteArray.toList_eq]; exact t3
   have HS := Lib.hid (lspelt s w hs)
   have HRV := Lib.hid (fun w => lReserved s w)
   obtain ⟨n, hn⟩ : ∃ n, speltN s.data.toList = n := ⟨_, rfl⟩
   rw [hn] at HS
   by_cases a1 : n = s.size
   · have b1 : ((n : Int) == (s.size : Int)) = true := beq_iff_eq.2 (by omega)
     by_cases a2 : s.size ≤ 40
     · have b2 : (s.size : Int) ≤ 40 := by omega
       by_cases a3 : s.data.toList = [95]
       · have b3 : s.toList = [95] := (und_is s).2 a3
         have hv : nameV s.data.toList = false := by simp [nameV, a3]
         have HV := Lib.hid hv
         have b4 : (s.toList == [95]) = true := by rw [b3]; rfl
         clear hv a3 t4 hsz hn a1
         go_enter Tryz.func14, Tryz.ntmps14
         go_wp2_with (first | (go_at_call 36; refine HS.out.mono ?_; rintro e w' ⟨rfl, hb⟩))
         go_ret
         exact ⟨ret_bool HV.out.symm, hb⟩
       · have b3 : ¬ s.toList = [95] := fun e => a3 ((und_is s).1 e)
         have b4 : (s.toList == [95]) = false := by simpa using b3
         have hv : nameV s.data.toList = !hasB resW s.data.toList := by simp only [nameV, t4, hn, hsz]; simp [a1, a2, a3]
         have HV := Lib.hid hv
         clear hv a3 t4 hsz hn a1
         go_enter Tryz.func14, Tryz.ntmps14
         go_wp2_with (first | (go_at_call 36; refine HS.out.mono ?_; rintro e w' ⟨rfl, hb⟩) | (go_at_call 15; refine (HRV.out _).mono ?_; rintro e w2 ⟨rfl, hb2⟩))
         go_ret
         exact ⟨ret_bool HV.out.symm, below_then hb hb2⟩
     · have b2 : ¬ (s.size : Int) ≤ 40 := by omega
       have hv : nameV s.data.toList = false := by simp only [nameV, hsz]; simp; omega
       have HV := Lib.hid hv
       clear hv t4 hsz hn a1
       go_enter Tryz.func14, Tryz.ntmps14
       go_wp2_with (first | (go_at_call 36; refine HS.out.mono ?_; rintro e w' ⟨rfl, hb⟩))
       go_ret
       exact ⟨ret_bool HV.out.symm, hb⟩
   · have b1 : ((n : Int) == (s.size : Int)) = false := beq_eq_false_iff_ne.2 (by omega)
     have hv : nameV s.data.toList = false := by simp only [nameV, hn, hsz]; simp [a1]
     have HV := Lib.hid hv
     clear hv t4 hsz hn a1
     go_enter Tryz.func14, Tryz.ntmps14
     go_wp2_with (first | (go_at_call 36; refine HS.out.mono ?_; rintro e w' ⟨rfl, hb⟩))
     go_ret
     exact ⟨ret_bool HV.out.symm, hb⟩
 · have hz : s.size = 0 := by omega
   have t1 := toList_nil hz
   have t3 : s.toList.isEmpty = true := by rw [t1]; rfl
   have hd : s.data.toList = [] := List.eq_nil_of_length_eq_zero hz
   have HV := Lib.hid (show nameV s.data.toList = false by rw [hd]; rfl)
   clear hd
   go_enter Tryz.func14, Tryz.ntmps14
   go_wp2_with fail
   go_ret
   exact ⟨ret_bool HV.out.symm, Below.refl _ _⟩
def capsB : ByteArray := ⟨#[65, 66, 67, 68, 69, 70, 71, 72, 73, 74, 75, 76, 77, 78, 79, 80, 81, 82, 83, 84, 85, 86, 87, 88, 89, 90]⟩
def isCap (c : UInt8) : Bool := decide (65 ≤ c.toNat) && decide (c.toNat ≤ 90)
theorem caps_is : (capsB.data.toList.contains ·) = isCap := all_u8 (by decide +kernel)
theorem isCap_in {c : UInt8} (b : Bool) (h : isCap c = b) : capsB.data.toList.contains c = b := (congrFun caps_is c).trans h
theorem nameV_ne {s : ByteArray} (h : nameV s.data.toList = true) : 0 < s.size := by
 rcases Nat.eq_zero_or_pos s.size with hz | hp
 · have hd : s.data.toList = [] := List.eq_nil_of_length_eq_zero hz
   rw [hd] at h; exact absurd h (by decide)
 · exact hp
theorem lExported (s : ByteArray) (w : World) (hs : s.size ≤ 9223372036854775807) :
  Calls Tryz.prog 20 #[.string s] w fun e w' => e = .returned (.bool (expV s.data.toList)) ∧ Below w.heap.size w w' := by
 have HN := Lib.hid (lName s w hs)
 cases hn : nameV s.data.toList with
 | false =>
  have HV := Lib.hid (show expV s.data.toList = false by unfold expV; rw [hn]; rfl)
  rw [hn] at HN
  clear hn
  go_enter Tryz.func20, Tryz.ntmps20
  go_wp2_with (first | (go_at_call 14; refine HN.out.mono ?_; rintro e w' ⟨rfl, hb⟩))
  go_ret
  exact ⟨ret_bool HV.out.symm, hb⟩
 | true =>
  have h0 := nameV_ne hn
  obtain ⟨c, r, hd, hc⟩ := hd_cons h0
  have hv : expV s.data.toList = isCap c := by unfold expV; rw [hn, hd]; rfl
  rw [hn] at HN
  cases hC : isCap c with
  | true =>
   have HV := Lib.hid (hv.trans hC)
   have HI := Lib.hid (fun w => idx_in capsB c w (isCap_in _ hC))
   clear hn hv hd hC
   unfold capsB at HI
   go_enter Tryz.func20, Tryz.ntmps20
   go_wp2_with (first | (go_at_call 14; refine HN.out.mono ?_; rintro e w' ⟨rfl, hb⟩) | (go_at_call 28; refine (HI.out _).mono ?_; rintro e w2 ⟨⟨i, rfl, hi⟩, rfl⟩; have hi2 : 0 ≤ i := by omega))
   go_ret
   exact ⟨ret_bool HV.out.symm, hb⟩
  | false =>
   have HV := Lib.hid (hv.trans hC)
   have HI := Lib.hid (fun w => idx_out capsB c w (isCap_in _ hC))
   clear hn hv hd hC
   unfold capsB at HI
   go_enter Tryz.func20, Tryz.ntmps20
   go_wp2_with (first | (go_at_call 14; refine HN.out.mono ?_; rintro e w' ⟨rfl, hb⟩) | (go_at_call 28; refine (HI.out _).mono ?_; rintro e w2 ⟨⟨i, rfl, hi⟩, rfl⟩; have hi2 : ¬ 0 ≤ i := by omega))
   go_ret
   exact ⟨ret_bool (by rw [HV.out]; exact decide_eq_false (by omega)), hb⟩
theorem takeW_all {p : UInt8 → Bool} : ∀ {l : BL}, (∀ c ∈ l, p c = true) → (l.takeWhile p).length = l.length
 | [], _ => rfl
 | c :: l, h => by
  have ih := takeW_all (l := l) (fun x hx => h x (List.mem_cons_of_mem _ hx))
  rw [List.takeWhile_cons, h c (by simp)]
  simp only [if_true, List.length_cons, ih]
theorem takeW_not {p : UInt8 → Bool} {l : BL} {j : Nat} {c : UInt8} (hc : l[j]? = some c) (h : p c = false) : (l.takeWhile p).length ≤ j := by
 induction l generalizing j with
 | nil => simp
 | cons x l ih =>
  cases j with
  | zero => simp at hc; subst hc; simp [h]
  | succ j =>
   simp at hc
   rw [List.takeWhile_cons]
   split
   · simp; exact ih hc
   · simp
theorem spelt_pos {s : ByteArray} {c : UInt8} {r : BL} (hd : s.data.toList = c :: r) (hL : isLet c = true) : speltN s.data.toList = (s.data.toList.takeWhile isLD).length := by
 rw [hd]; exact if_pos hL
theorem spelt_zero {s : ByteArray} {c : UInt8} {r : BL} (hd : s.data.toList = c :: r) (hL : isLet c = false) : speltN s.data.toList = 0 := by
 rw [hd]; exact if_neg (by rw [hL]; exact Bool.false_ne_true)
set_option maxHeartbeats 800000 in
theorem rNamed (s : ByteArray) (w : World) (hs : s.size ≤ 9223372036854775807) :
  Calls Tryz.prog 19 #[.string s] w fun e w' => e = .returned (.bool (nameV s.data.toList)) ∧ Below w.heap.size w w' := by
 have hsz : s.data.toList.length = s.size := rfl
 have HL := Lib.hid (fun i w hi => rletter s i w hs hi)
 have HD := Lib.hid (fun i w hi => rdigit s i w hs hi)
 have HR := Lib.hid (fun w => rReserved s w)
 have HL0 := Lib.hid (rletter s 0 w hs (by omega))
 by_cases h0 : 0 < s.size
 · obtain ⟨c, r, hd, hc⟩ := hd_cons h0
   have hat : atB isLet s.data.toList 0 = isLet c := by rw [atB_in h0, hc]
   rw [hat] at HL0
   cases hC : isLet c with
   | false =>
    have HV := Lib.hid (show nameV s.data.toList = false by
     have := spelt_zero hd hC
     simp only [nameV, this, hsz]; simp; omega)
    rw [hC] at HL0
    clear hd hat hC hsz
    go_enter Tryz.func19, Tryz.ntmps19
    go_wp2_with (first | (go_at_call 43; refine HL0.out.mono ?_; rintro e w' ⟨rfl, rfl⟩))
    go_ret
    exact ⟨ret_bool HV.out.symm, Below.refl _ _⟩
   | true =>
    rw [hC] at HL0
    by_cases a2 : s.size ≤ 40
    · have b2 : ¬ (40 : Int) < (s.size : Int) := by omega
      have t4 : s.data.toList.isEmpty = false := by rw [hd]; rfl
      have hsp := spelt_pos hd hC
      by_cases a3 : s.data.toList = [95]
      · have b3 : s.toList = [95] := (und_is s).2 a3
        have HV := Lib.hid (show nameV s.data.toList = false by simp [nameV, a3])
        have b4 : (s.toList == [95]) = true := by rw [b3]; rfl
        clear hd hat hC hsz a3 t4 hsp
        go_enter Tryz.func19, Tryz.ntmps19
        go_wp2_with (first | (go_at_call 43; refine HL0.out.mono ?_; rintro e w' ⟨rfl, rfl⟩))
        go_ret
        exact ⟨ret_bool HV.out.symm, Below.refl _ _⟩
      · have b3 : ¬ s.toList = [95] := fun e => a3 ((und_is s).1 e)
        have b4 : (s.toList == [95]) = false := by simpa using b3
        cases hR : hasB resW s.data.toList with
        | true =>
         rw [hR] at HR
         have HV := Lib.hid (show nameV s.data.toList = false by simp [nameV, hR])
         clear hd hat hC hsz a3 t4 hsp hR
         go_enter Tryz.func19, Tryz.ntmps19
         go_wp2_with (first | (go_at_call 43; refine HL0.out.mono ?_; rintro e w' ⟨rfl, rfl⟩) | (go_at_call 18; refine (HR.out _).mono ?_; rintro e w2 ⟨rfl, hb2⟩))
         go_ret
         exact ⟨ret_bool HV.out.symm, hb2⟩
        | false =>
         rw [hR] at HR
         have hv : nameV s.data.toList = decide ((s.data.toList.takeWhile isLD).length = s.size) := by
          simp only [nameV, t4, hsp, hsz, hR]; simp [a2, a3]
         have HV := Lib.hid hv
         clear hd hat hC hsz a3 t4 hsp hR hv
         go_enter Tryz.func19, Tryz.ntmps19
         go_wp2_with (first | (go_at_call 43; refine HL0.out.mono ?_; rintro e w' ⟨rfl, rfl⟩) | (go_at_call 18; refine (HR.out _).mono ?_; rintro e w2 ⟨rfl, hb2⟩))
         have HB2 := Lib.hid hb2
         clear hb2
         go_loopw [3] (fun i wr => ∃ j : Nat, j ≤ s.size ∧ i = .int .i64 j ∧ (∀ c ∈ s.data.toList.take j, isLD c = true) ∧ wr = w2) (fun i _ => s.size - (intOf i).toNat)
         case atStart => exact ⟨0, Nat.zero_le _, rfl, fun c hc => by simp at hc, rfl⟩
         case round =>
          obtain ⟨j, hj, rfl, hall, rfl⟩ := hrel
          have HA := Lib.hid hall
          clear hall
          by_cases hlt : j < s.size
          · have hlt2 : (j : Int) < (s.size : Int) := by omega
            obtain ⟨x, hx⟩ : ∃ x, s[j] = x := ⟨_, rfl⟩
            have h1 := HL.out j wr (by omega)
            have h2 := HD.out j wr (by omega)
            rw [atB_in hlt, hx] at h1 h2
            have hgx : s.data.toList[j]? = some x := by
             rw [List.getElem?_eq_getElem (by show j < s.size; exact hlt)]; exact congrArg some hx
            have H1 := Lib.hid h1
            have H2 := Lib.hid h2
            have HG := Lib.hid hgx
            clear h1 h2 hgx hx
            cases hxL : isLet x with
            | true =>
             rw [hxL] at H1
             have HX := Lib.hid (show isLD x = true by simp [isLD, hxL])
             clear hxL
             go_wp2_with (first | (go_at_call 43; refine H1.out.mono ?_; rintro e w' ⟨rfl, rfl⟩))
             go_roundw
             case rel => exact ⟨j + 1, by omega, by go_num, fun c hc => by
              rw [take_snoc HG.out] at hc
              rcases List.mem_append.1 hc with h | h
              · exact HA.out c h
              · simp at h; rw [h]; exact HX.out, trivial⟩
             case measure => simp only [intOf]; omega
            | false =>
             rw [hxL] at H1
             cases hxD : isDig x with
             | true =>
              rw [hxD] at H2
              have HX := Lib.hid (show isLD x = true by simp [isLD, hxD])
              clear hxL hxD
              go_wp2_with (first | (go_at_call 43; refine H1.out.mono ?_; rintro e w' ⟨rfl, rfl⟩) | (go_at_call 44; refine H2.out.mono ?_; rintro e w' ⟨rfl, rfl⟩))
              go_roundw
              case rel => exact ⟨j + 1, by omega, by go_num, fun c hc => by
               rw [take_snoc HG.out] at hc
               rcases List.mem_append.1 hc with h | h
               · exact HA.out c h
               · simp at h; rw [h]; exact HX.out, trivial⟩
              case measure => simp only [intOf]; omega
             | false =>
              rw [hxD] at H2
              have HX := Lib.hid (show isLD x = false by simp [isLD, hxL, hxD])
              clear hxL hxD
              have hvv : nameV s.data.toList = false := by
               rw [HV.out]
               have := takeW_not HG.out HX.out
               simp; omega
              have HVV := Lib.hid hvv
              clear hvv
              go_wp2_with (first | (go_at_call 43; refine H1.out.mono ?_; rintro e w' ⟨rfl, rfl⟩) | (go_at_call 44; refine H2.out.mono ?_; rintro e w' ⟨rfl, rfl⟩))
              go_ret
              exact ⟨ret_bool HVV.out.symm, HB2.out⟩
          · have hke : j = s.size := by omega
            have hvv : nameV s.data.toList = true := by
             rw [HV.out]
             have h1 := HA.out
             rw [List.take_of_length_le (by show s.size ≤ j; omega)] at h1
             have := takeW_all h1
             simp; exact this
            have HVV := Lib.hid hvv
            clear hvv
            go_wp2_with fail
            go_ret
            exact ⟨ret_bool HVV.out.symm, HB2.out⟩
    · have b2 : (40 : Int) < (s.size : Int) := by omega
      have HV := Lib.hid (show nameV s.data.toList = false by simp only [nameV, hsz]; simp; omega)
      clear hd hat hC hsz
      go_enter Tryz.func19, Tryz.ntmps19
      go_wp2_with (first | (go_at_call 43; refine HL0.out.mono ?_; rintro e w' ⟨rfl, rfl⟩))
      go_ret
      exact ⟨ret_bool HV.out.symm, Below.refl _ _⟩
 · have hz : s.size = 0 := by omega
   have hd : s.data.toList = [] := List.eq_nil_of_length_eq_zero hz
   have HV := Lib.hid (show nameV s.data.toList = false by rw [hd]; rfl)
   rw [show atB isLet s.data.toList 0 = false from atB_out (by rw [hd]; simp)] at HL0
   clear hd hsz
   go_enter Tryz.func19, Tryz.ntmps19
   go_wp2_with (first | (go_at_call 43; refine HL0.out.mono ?_; rintro e w' ⟨rfl, rfl⟩))
   go_ret
   exact ⟨ret_bool HV.out.symm, Below.refl _ _⟩
theorem rExported (s : ByteArray) (w : World) (hs : s.size ≤ 9223372036854775807) :
  Calls Tryz.prog 21 #[.string s] w fun e w' => e = .returned (.bool (expV s.data.toList)) ∧ Below w.heap.size w w' := by
 have HN := Lib.hid (rNamed s w hs)
 cases hn : nameV s.data.toList with
 | false =>
  have HV := Lib.hid (show expV s.data.toList = false by unfold expV; rw [hn]; rfl)
  rw [hn] at HN
  clear hn
  go_enter Tryz.func21, Tryz.ntmps21
  go_wp2_with (first | (go_at_call 19; refine HN.out.mono ?_; rintro e w' ⟨rfl, hb⟩))
  go_ret
  exact ⟨ret_bool HV.out.symm, hb⟩
 | true =>
  have h0 := nameV_ne hn
  obtain ⟨c, r, hd, hc⟩ := hd_cons h0
  have hv : expV s.data.toList = isCap c := by unfold expV; rw [hn, hd]; rfl
  rw [hn] at HN
  by_cases a1 : 65 ≤ c.toNat
  · have b1 : (65 : Int) ≤ (c.toNat : Int) := by omega
    by_cases a2 : c.toNat ≤ 90
    · have b2 : (c.toNat : Int) ≤ 90 := by omega
      have HV := Lib.hid (hv.trans (show isCap c = true by simp [isCap, a1, a2]))
      clear hn hv hd
      go_enter Tryz.func21, Tryz.ntmps21
      go_wp2_with (first | (go_at_call 19; refine HN.out.mono ?_; rintro e w' ⟨rfl, hb⟩))
      go_ret
      exact ⟨ret_bool HV.out.symm, hb⟩
    · have b2 : ¬ (c.toNat : Int) ≤ 90 := by omega
      have HV := Lib.hid (hv.trans (show isCap c = false by simp [isCap]; omega))
      clear hn hv hd
      go_enter Tryz.func21, Tryz.ntmps21
      go_wp2_with (first | (go_at_call 19; refine HN.out.mono ?_; rintro e w' ⟨rfl, hb⟩))
      go_ret
      exact ⟨ret_bool (by rw [HV.out]; exact decide_eq_false (by omega)), hb⟩
  · have b1 : ¬ (65 : Int) ≤ (c.toNat : Int) := by omega
    have HV := Lib.hid (hv.trans (show isCap c = false by simp [isCap]; omega))
    clear hn hv hd
    go_enter Tryz.func21, Tryz.ntmps21
    go_wp2_with (first | (go_at_call 19; refine HN.out.mono ?_; rintro e w' ⟨rfl, hb⟩))
    go_ret
    exact ⟨ret_bool HV.out.symm, hb⟩
end
end Go.Proofs.YtclbmmiedihepaaGreatDoor
