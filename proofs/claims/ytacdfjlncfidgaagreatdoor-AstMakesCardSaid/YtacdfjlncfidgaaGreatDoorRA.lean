/- A part of what the claim leans on. -/
import Derived.Test.YtacdfjlncfidgaaGreatDoorQA
import Derived.Test.YtacdfjlncfidgaaGreatDoorQC
import Derived.Test.YtacdfjlncfidgaaGreatDoorQShelf
import Derived.Test.YtacdfjlncfidgaaGreatDoorQB
import Derived.Shelf.Strings.SlTrimAscii
namespace Go.Proofs.YtacdfjlncfidgaaGreatDoor
open Go.RowKit
set_option linter.unusedVariables false
set_option linter.unusedSimpArgs false
abbrev BL := List UInt8
def isLet (c : UInt8) : Bool := (decide (97 ≤ c.toNat) && decide (c.toNat ≤ 122)) || (decide (65 ≤ c.toNat) && decide (c.toNat ≤ 90)) || decide (c.toNat = 95)
def isLD (c : UInt8) : Bool := isLet c || isDig c
def isBl (c : UInt8) : Bool := decide (c.toNat = 32) || decide (c.toNat = 9) || decide (c.toNat = 13)
def speltN (L : BL) : Nat := match L with
 | [] => 0
 | c :: _ => if isLet c then (L.takeWhile isLD).length else 0
def sgN (p : BL) : Nat := match p with
 | [] => 0
 | c :: _ => if c.toNat = 43 ∨ c.toNat = 45 then 1 else 0
def expN (r : BL) : Nat := match r with
 | [] => 0
 | c :: p => if c.toNat = 101 then (if digN (p.drop (sgN p)) = 0 then 0 else 1 + sgN p + digN (p.drop (sgN p))) else 0
def numN (L : BL) : Nat × Nat :=
 if digN L = 0 ∨ L[digN L]? ≠ some 46 ∨ digN (L.drop (digN L + 1)) = 0 then (3, digN L)
 else (4, digN L + 1 + digN (L.drop (digN L + 1)) + expN (L.drop (digN L + 1 + digN (L.drop (digN L + 1)))))
def hexV (c : UInt8) : Option Nat := if isDig c then some (c.toNat - 48) else if 97 ≤ c.toNat ∧ c.toNat ≤ 102 then some (c.toNat - 87) else none
def escV (L : BL) : Option (UInt8 × Nat) := match L with
 | [] => none
 | c :: r => if c.toNat = 110 then some (10, 1) else if c.toNat = 116 then some (9, 1) else if c.toNat = 34 ∨ c.toNat = 92 then some (c, 1)
  else if c.toNat = 120 then (match r with
   | a :: b :: _ => (match hexV a, hexV b with
    | some h, some l => some (UInt8.ofNat (h * 16 + l), 3)
    | _, _ => none)
   | _ => none)
  else none
theorem escV_pos {L : BL} {x : UInt8} {n : Nat} (h : escV L = some (x, n)) : 0 < n ∧ n ≤ 3 ∧ n ≤ L.length := by
 unfold escV at h
 split at h
 · cases h
 · split at h
   · cases h; simp
   · split at h
     · cases h; simp
     · split at h
       · cases h; simp
       · split at h
         · split at h
           · split at h
             · cases h; simp
             · cases h
           · cases h
         · cases h
def quotAt (L : BL) (i : Nat) (b : BL) : Option (BL × Nat) :=
 if hi : i < L.length then
  if (L[i]).toNat = 34 then some (b, i + 1)
  else if (L[i]).toNat < 32 ∨ (L[i]).toNat = 127 then none
  else if (L[i]).toNat = 92 then
   match escV (L.drop (i + 1)) with
   | none => none
   | some (x, n) => quotAt L (i + 1 + n) (b ++ [x])
  else quotAt L (i + 1) (b ++ [L[i]])
 else none
termination_by L.length - i
def quotV (L : BL) : Option (BL × Nat) := match L with
 | [] => none
 | c :: _ => if c.toNat = 34 then quotAt L 1 [] else none
def resW : List BL := [[98,114,101,97,107],[99,111,110,116,105,110,117,101],[101,108,115,101],[102,97,108,115,101],[102,108,111,97,116,54,52],[102,111,114],[102,117,110,99],[105,102],[105,109,112,111,114,116],[105,110,116],[98,111,111,108],[115,116,114,105,110,103],[108,101,110],[112,97,99,107,97,103,101],[112,97,110,105,99],[112,114,105,110,116],[114,101,116,117,114,110],[115,116,114,117,99,116],[116,114,117,101],[116,121,112,101],[118,97,114]]
def endW : List BL := [[116,114,117,101],[102,97,108,115,101],[114,101,116,117,114,110],[98,114,101,97,107],[99,111,110,116,105,110,117,101],[105,110,116],[98,111,111,108],[115,116,114,105,110,103],[102,108,111,97,116,54,52]]
def marks2 : List BL := [[61,61],[33,61],[60,61],[62,61],[38,38],[124,124],[58,61]]
def marks1 : List BL := [[43],[45],[42],[47],[37],[60],[62],[33],[61],[40],[41],[123],[125],[44],[46],[58]]
def markN (L : BL) : Nat := if marks2.any (fun m => m.isPrefixOf L) then 2 else if marks1.any (fun m => m.isPrefixOf L) then 1 else 0
def errI (L : BL) : Int := if natV L then (if valD 0 L ≤ 9223372036854775807 then 0 else 3) else 4
def takeV (eF : BL → Int) (L : BL) : Int × Nat × Nat :=
 if 0 < speltN L then
  (if resW.contains (L.take (speltN L)) then (0, 2, speltN L) else if 40 < speltN L then (3, 1, speltN L) else if L.take (speltN L) = [95] then (9, 1, speltN L) else (0, 1, speltN L))
 else if 0 < (numN L).2 then
  ((if (numN L).1 = 3 then errI (L.take (numN L).2) else eF (L.take (numN L).2)), (numN L).1, (numN L).2)
 else match quotV L with
  | some (v, n) => ((if 4096 < v.length then 3 else 0), 5, n)
  | none => if L.head? = some 59 then (0, 7, 1) else if 0 < markN L then (0, 6, markN L) else (4, 0, 0)
structure Tk where
 kind : Nat
 text : BL
 fr : Nat
 ed : Nat
 deriving DecidableEq, Inhabited
def endsV (t : Tk) : Bool := decide (t.kind = 1) || decide (t.kind = 3) || decide (t.kind = 4) || decide (t.kind = 5) || (decide (t.kind = 2) && endW.contains t.text) || (decide (t.kind = 6) && (decide (t.text = [41]) || decide (t.text = [125])))
def closeV (l : List Tk) (last : Option Tk) : List Tk := match last with
 | none => l
 | some t => if endsV t then l ++ [⟨7, [], t.ed, t.ed⟩] else l
def comN (L : BL) : Nat := (L.takeWhile (fun c => decide (c.toNat ≠ 10))).length
def lexV (eF : BL → Int) (L : BL) (at_ : Nat) (acc : List Tk) (last : Option Tk) : Except (Nat × Int) (List Tk) :=
 match h : L.drop at_ with
 | [] => .ok (closeV acc last)
 | c :: r =>
  if isBl c then lexV eF L (at_ + 1) acc last
  else if c.toNat = 10 then lexV eF L (at_ + 1) (closeV acc last) none
  else if c.toNat = 47 ∧ r.head? = some 47 then lexV eF L (at_ + 1 + comN r) acc last
  else if hn : (takeV eF (c :: r)).1 = 0 ∧ 0 < (takeV eF (c :: r)).2.2 then
   lexV eF L (at_ + (takeV eF (c :: r)).2.2) (acc ++ [⟨(takeV eF (c :: r)).2.1, (c :: r).take (takeV eF (c :: r)).2.2, at_, at_ + (takeV eF (c :: r)).2.2⟩]) (some ⟨(takeV eF (c :: r)).2.1, (c :: r).take (takeV eF (c :: r)).2.2, at_, at_ + (takeV eF (c :: r)).2.2⟩)
  else .error (at_, (takeV eF (c :: r)).1)
termination_by L.length - at_
decreasing_by
 all_goals
  have hl : (L.drop at_).length = (c :: r).length := by rw [h]
  rw [List.length_drop, List.length_cons] at hl
  omega
theorem all_u8 {p q : UInt8 → Bool} (h : ∀ n : Fin 256, p (UInt8.ofNat n) = q (UInt8.ofNat n)) : p = q := by
 funext c
 have := h ⟨c.toNat, UInt8.toNat_lt c⟩
 simpa using this
theorem indexB_mem (l : List UInt8) (c : UInt8) : decide (Lib.indexByte l c < 0) = !l.contains c := by
 induction l with
 | nil => rfl
 | cons b l ih =>
  unfold Lib.indexByte
  have hge := Lib.indexByte_ge l c
  by_cases h : b = c
  · subst h; simp
  · have h1 : (b == c) = false := by simpa using h
    have h2 : (c == b) = false := by simpa using fun e => h e.symm
    rw [h1, List.contains_cons, h2, Bool.false_or, ← ih]
    by_cases h3 : Lib.indexByte l c = -1
    · rw [h3]; rfl
    · have h4 : (Lib.indexByte l c == -1) = false := by simpa using h3
      rw [h4]
      simp only [Bool.false_eq_true, if_false]
      congr 1
      simp only [eq_iff_iff]
      omega
def lettersB : ByteArray := ⟨#[65, 66, 67, 68, 69, 70, 71, 72, 73, 74, 75, 76, 77, 78, 79, 80, 81, 82, 83, 84, 85, 86, 87, 88, 89, 90, 97, 98, 99, 100, 101, 102, 103, 104, 105, 106, 107, 108, 109, 110, 111, 112, 113, 114, 115, 116, 117, 118, 119, 120, 121, 122, 95]⟩
def lettersD : ByteArray := ⟨#[65, 66, 67, 68, 69, 70, 71, 72, 73, 74, 75, 76, 77, 78, 79, 80, 81, 82, 83, 84, 85, 86, 87, 88, 89, 90, 97, 98, 99, 100, 101, 102, 103, 104, 105, 106, 107, 108, 109, 110, 111, 112, 113, 114, 115, 116, 117, 118, 119, 120, 121, 122, 95, 48, 49, 50, 51, 52, 53, 54, 55, 56, 57]⟩
def figuresB : ByteArray := ⟨#[48, 49, 50, 51, 52, 53, 54, 55, 56, 57]⟩
theorem letters_is : (lettersB.data.toList.contains ·) = isLet := all_u8 (by decide +kernel)
theorem lettersD_is : (lettersD.data.toList.contains ·) = isLD := all_u8 (by decide +kernel)
theorem figures_is : (figuresB.data.toList.contains ·) = isDig := all_u8 (by decide +kernel)
theorem ascii_of (cs : ByteArray) (h : cs.data.toList.all (fun b => decide (b.toNat < 128)) = true) : ∀ (j : Nat) b, cs.data.toList[j]? = some b → b.toNat < 128 := fun j b hb => by
 have := List.all_eq_true.1 h b (List.mem_of_getElem? hb)
 simpa using this
theorem toList_nil {s : ByteArray} (h : s.size = 0) : s.toList = [] := by
 rw [ByteArray.toList_eq]; exact List.eq_nil_of_length_eq_zero h
theorem toList_ne {s : ByteArray} (h : 0 < s.size) : ¬ s.toList = [] := by
 rw [ByteArray.toList_eq]; intro e
 have : s.data.toList.length = s.size := rfl
 rw [e] at this; simp at this; omega
theorem zero122 : Tryz.zeroCells105 = Array.replicate 256 (.bool false) := by kernel_rfl
theorem trimL (s cs : ByteArray) (w : World) (h2 : 2 ≤ cs.size) (hcs : cs.size < 4294967281) (ha : cs.data.toList.all (fun b => decide (b.toNat < 128)) = true) :
  Calls Tryz.prog 102 #[.string s, .string cs] w fun e w' => e = .returned (.string ⟨(s.data.toList.dropWhile (cs.data.toList.contains ·)).toArray⟩) ∧ Below w.heap.size w w' := by
 by_cases h0 : 0 < s.size
 · refine (Any.strings_TrimLeft_set Tryz.lays161 (fun w => (Tryz.zeroValue105 w).trans (by rw [zero122])) (by kernel_rfl) s cs w h2 h0 hcs (ascii_of cs ha)).mono ?_
   rintro e w' ⟨rfl, rfl⟩
   exact ⟨rfl, ((Below.refl _ _).alloc (Nat.le_refl _) _).alloc (by rw [World.size_alloc]; omega) _⟩
 · have hz : s.size = 0 := by omega
   have t1 := toList_nil hz
   have hd : s.data.toList = [] := List.eq_nil_of_length_eq_zero hz
   have hs : s = ⟨#[]⟩ := by
    have : s.data = #[] := Array.toList_inj.1 (by simpa using hd)
    cases s; simp_all
   subst hs
   go_enter Tryz.func102, Tryz.ntmps102
   go_wp2_with fail
   go_ret
   exact ⟨rfl, Below.refl _ _⟩
theorem takeW_len {p : UInt8 → Bool} (l : List UInt8) : (l.dropWhile p).length + (l.takeWhile p).length = l.length := by
 have := congrArg List.length (List.takeWhile_append_dropWhile (p := p) (l := l))
 rw [List.length_append] at this; omega
theorem ldigits (s : ByteArray) (w : World) (hs : s.size ≤ 9223372036854775807) :
  Calls Tryz.prog 180 #[.string s] w fun e w' => e = .returned (.int .i64 (digN s.data.toList)) ∧ Below w.heap.size w w' := by
 have HT := Lib.hid (trimL s figuresB w (by decide) (by decide) (by decide +kernel))
 have hl := takeW_len (p := isDig) s.data.toList
 rw [figures_is] at HT
 have hsz : s.data.toList.length = s.size := rfl
 have hd : digN s.data.toList = (s.data.toList.takeWhile isDig).length := rfl
 obtain ⟨r, hr⟩ : ∃ r : ByteArray, ⟨(s.data.toList.dropWhile isDig).toArray⟩ = r := ⟨_, rfl⟩
 have hrs : r.size = s.size - digN s.data.toList := by
  rw [← hr, hd]; show (s.data.toList.dropWhile isDig).toArray.size = _
  rw [List.size_toArray]; omega
 have hdl : digN s.data.toList ≤ s.size := digN_le _
 rw [hr] at HT
 generalize digN s.data.toList = D at *
 clear hl hd hr hsz
 unfold figuresB at HT
 go_enter Tryz.func180, Tryz.ntmps180
 go_wp2_with (go_at_call 102; refine HT.out.mono ?_; rintro e w' ⟨rfl, hb⟩)
 go_ret
 exact ⟨ret_int (by omega), hb⟩
theorem u8_back (x : UInt8) : (x.toNat : Int).toNat.toUInt8 = x := by simp
theorem idx_in (cs : ByteArray) (x : UInt8) (w : World) (h : cs.data.toList.contains x = true) :
  Calls Tryz.prog 101 #[.string cs, .int .u8 (x.toNat : Int)] w fun e w' => (∃ i : Int, e = .returned (.int .i64 i) ∧ ¬ i < 0) ∧ w' = w := by
 refine (Tryz.strings_IndexByte cs (x.toNat : Int) w).mono ?_
 rintro e w' ⟨rfl, rfl⟩
 refine ⟨⟨_, rfl, ?_⟩, rfl⟩
 have := indexB_mem cs.data.toList x
 rw [h] at this
 rw [u8_back]
 simpa using this
theorem idx_out (cs : ByteArray) (x : UInt8) (w : World) (h : cs.data.toList.contains x = false) :
  Calls Tryz.prog 101 #[.string cs, .int .u8 (x.toNat : Int)] w fun e w' => (∃ i : Int, e = .returned (.int .i64 i) ∧ i < 0) ∧ w' = w := by
 refine (Tryz.strings_IndexByte cs (x.toNat : Int) w).mono ?_
 rintro e w' ⟨rfl, rfl⟩
 refine ⟨⟨_, rfl, ?_⟩, rfl⟩
 have := indexB_mem cs.data.toList x
 rw [h] at this
 rw [u8_back]
 simpa using this
theorem hd_cons {s : ByteArray} (h : 0 < s.size) : ∃ c r, s.data.toList = c :: r ∧ s[0] = c := by
 have hl : s.data.toList.length = s.size := rfl
 cases hd : s.data.toList with
 | nil => rw [hd] at hl; simp at hl; omega
 | cons c r =>
  refine ⟨c, r, rfl, ?_⟩
  have : s.data.toList[0]? = some s[0] := by rw [List.getElem?_eq_getElem (by rw [hl]; exact h)]; rfl
  rw [hd] at this
  simpa using this.symm
theorem isLet_in {c : UInt8} (b : Bool) (h : isLet c = b) : lettersB.data.toList.contains c = b :=
 (congrFun letters_is c).trans h
theorem lspelt (s : ByteArray) (w : World) (hs : s.size ≤ 9223372036854775807) :
  Calls Tryz.prog 88 #[.string s] w fun e w' => e = .returned (.int .i64 (speltN s.data.toList)) ∧ Below w.heap.size w w' := by
 by_cases h0 : 0 < s.size
 · obtain ⟨c, r, hd, hc⟩ := hd_cons h0
   have t1 := toList_ne h0
   have t3 : s.toList.isEmpty = false := by simpa using t1
   by_cases hL : isLet c = true
   · have HI := Lib.hid (idx_in lettersB c w (isLet_in _ hL))
     have HT := Lib.hid (trimL s lettersD w (by decide) (by decide) (by decide +kernel))
     rw [lettersD_is] at HT
     have hsp : speltN s.data.toList = (s.data.toList.takeWhile isLD).length := by
      rw [hd]; exact if_pos hL
     have hl := takeW_len (p := isLD) s.data.toList
     have hsz : s.data.toList.length = s.size := rfl
     obtain ⟨r, hr⟩ : ∃ r : ByteArray, ⟨(s.data.toList.dropWhile isLD).toArray⟩ = r := ⟨_, rfl⟩
     have hrs : r.size + speltN s.data.toList = s.size := by
      rw [← hr, hsp]; show (s.data.toList.dropWhile isLD).toArray.size + _ = _
      rw [List.size_toArray]; omega
     rw [hr] at HT
     generalize speltN s.data.toList = D at *
     clear hl hr hsz hsp hd hL
     unfold lettersB at HI
     unfold lettersD at HT
     go_enter Tryz.func88, Tryz.ntmps88
     go_wp2_with (first
      | (go_at_call 101; refine HI.out.mono ?_; rintro e w' ⟨⟨i, rfl, hi⟩, rfl⟩)
      | (go_at_call 102; refine HT.out.mono ?_; rintro e w' ⟨rfl, hb⟩))
     go_ret
     exact ⟨ret_int (by omega), hb⟩
   · have hL2 : isLet c = false := by simpa using hL
     have HI := Lib.hid (idx_out lettersB c w (isLet_in _ hL2))
     have hsp : speltN s.data.toList = 0 := by rw [hd]; exact if_neg hL
     rw [hsp]
     clear hsp hd hL hL2
     unfold lettersB at HI
     go_enter Tryz.func88, Tryz.ntmps88
     go_wp2_with (first
      | (go_at_call 101; refine HI.out.mono ?_; rintro e w' ⟨⟨i, rfl, hi⟩, rfl⟩))
     go_ret
     exact ⟨rfl, Below.refl _ _⟩
 · have hz : s.size = 0 := by omega
   have t1 := toList_nil hz
   have t3 : s.toList.isEmpty = true := by rw [t1]; rfl
   have hd : s.data.toList = [] := List.eq_nil_of_length_eq_zero hz
   have hsp : speltN s.data.toList = 0 := by rw [hd]; rfl
   rw [hsp]
   go_enter Tryz.func88, Tryz.ntmps88
   go_wp2_with fail
   go_ret
   exact ⟨rfl, Below.refl _ _⟩
theorem lwords (w : World) : Calls Tryz.prog 104 #[] w fun e w' => e = .returned (.slice (some ⟨w.heap.size, 0, none⟩) 21 21) ∧ w' = w.alloc (.cells (resW.map fun l => Value.string ⟨l.toArray⟩).toArray 9) := by
 go_enter Tryz.func104, Tryz.ntmps104
 go_wp2_with fail
 go_ret
 exact ⟨rfl, rfl⟩
def atB (p : UInt8 → Bool) (L : BL) (i : Nat) : Bool := match L[i]? with
 | some c => p c
 | none => false
def toBA (l : BL) : ByteArray := ⟨l.toArray⟩
theorem toBA_list (l : BL) : (toBA l).data.toList = l := by simp [toBA]
theorem toBA_eta (s : ByteArray) : toBA s.data.toList = s := by cases s; simp [toBA]
def hasB (l : List BL) (x : BL) : Bool := l.contains x
theorem contains_ba (l : List BL) (x : ByteArray) : Lib.containsS (l.map toBA) x = hasB l x.data.toList := by
 unfold hasB
 rw [Bool.eq_iff_iff, Lib.containsS_iff, List.contains_iff_mem]
 constructor
 · intro h
   obtain ⟨y, hy, e⟩ := List.mem_map.1 h
   rw [← e, toBA_list]; exact hy
 · intro h
   exact List.mem_map.2 ⟨_, h, toBA_eta x⟩
theorem cells_ba (l : List BL) (w : World) (b : Nat) (h : w.heap[b]? = some (.cells (l.map fun l => Value.string ⟨l.toArray⟩).toArray 9 (0, 0))) : ∀ j, j < (l.map toBA).length → w.cell? ⟨b, 0 + j, none⟩ = some (.string ((l.map toBA).getD j ByteArray.empty)) := fun j hj => by
 rw [cell_of_row _ _ _ _ _ _ h, Nat.zero_add]
 rw [List.length_map] at hj
 rw [List.getElem?_toArray, List.getElem?_map, List.getElem?_eq_getElem hj, List.getD_eq_getElem?_getD, List.getElem?_map, List.getElem?_eq_getElem hj]
 rfl
theorem lReserved (s : ByteArray) (w : World) : Calls Tryz.prog 89 #[.string s] w fun e w' => e = .returned (.bool (hasB resW s.data.toList)) ∧ Below w.heap.size w w' := by
 have HW := Lib.hid (lwords w)
 have hb : (w.alloc (.cells (resW.map fun l => Value.string ⟨l.toArray⟩).toArray 9)).heap[w.heap.size]? = some (.cells (resW.map fun l => Value.string ⟨l.toArray⟩).toArray 9 (0, 0)) := heap_alloc_new w _
 have hc := Tryz.slices_Contains_string w.heap.size 0 21 21 (resW.map toBA) s (w.alloc (.cells (resW.map fun l => Value.string ⟨l.toArray⟩).toArray 9)) (by decide) (by decide) (cells_ba resW _ _ hb)
 rw [show (resW.map toBA).take 21 = resW.map toBA from List.take_of_length_le (by decide), contains_ba] at hc
 have HC := Lib.hid hc
 have HB := Lib.hid ((Below.refl w.heap.size w).alloc (Nat.le_refl _) (.cells (resW.map fun l => Value.string ⟨l.toArray⟩).toArray 9))
 clear hb hc
 go_enter Tryz.func89, Tryz.ntmps89
 go_wp2_with (first
  | (go_at_call 104; refine HW.out.mono ?_; rintro e w' ⟨rfl, rfl⟩)
  | (go_at_call 103; refine HC.out.mono ?_; rintro e w' ⟨rfl, rfl⟩))
 go_ret
 exact ⟨rfl, HB.out⟩
theorem cells_of_new (l : List BL) (w : World) : ∀ j x, l[j]? = some x → (w.alloc (.cells (l.map fun l => Value.string ⟨l.toArray⟩).toArray 9)).cell? ⟨w.heap.size, 0 + j, none⟩ = some (.string (toBA x)) := fun j x hx => by
 rw [cell_of_row _ _ _ _ _ _ (heap_alloc_new w _), Nat.zero_add, List.getElem?_toArray, List.getElem?_map, hx]; rfl
def nameV (L : BL) : Bool := !L.isEmpty && decide (speltN L = L.length) && decide (L.length ≤ 40) && !decide (L = [95]) && !hasB resW L
theorem und_is (s : ByteArray) : (s.toList = [95]) ↔ s.data.toList = [95] := by rw [ByteArray.toList_eq]
theorem lName (s : ByteArray) (w : World) (hs : s.size ≤ 9223372036854775807) :
  Calls Tryz.prog 73 #[.string s] w fun e w' => e = .returned (.bool (nameV s.data.toList)) ∧ Below w.heap.size w w' := by
 have hsz : s.data.toList.length = s.size := rfl
 by_cases h0 : 0 < s.size
 · have t1 := toList_ne h0
   have t3 : s.toList.isEmpty = false := by simpa using t1
   have t4 : s.data.toList.isEmpty = false := by rw [← ByteArray.toList_eq]; exact t3
   have HS := Lib.hid (lspelt s w hs)
   have HRV := Lib.hid (fun w => lReserved s w)
   obtain ⟨n, hn⟩ : ∃ n, speltN s.data.toList = n := ⟨_, rfl⟩
   rw [hn] at HS
   by_cases a1 : n = s.size
   · have b1 : ((n : Int) == (s.size : Int)) = true := beq_iff_eq.2 (by omega)
     by_cases a2 : s.size ≤ 40
     · have b2 : (s.size : Int) ≤ 40 := by omega
       by_cases a3 : s.data.toList = [95]
       · have b3 : s.toList = [95] := (und_is s).2 a3
         have hv : nameV s.data.toList = false := by simp [nameV, a3]
         have HV := Lib.hid hv
         have b4 : (s.toList == [95]) = true := by rw [b3]; rfl
         clear hv a3 t4 hsz hn a1
         go_enter Tryz.func73, Tryz.ntmps73
         go_wp2_with (first | (go_at_call 88; refine HS.out.mono ?_; rintro e w' ⟨rfl, hb⟩))
         go_ret
         exact ⟨ret_bool HV.out.symm, hb⟩
       · have b3 : ¬ s.toList = [95] := fun e => a3 ((und_is s).1 e)
         have b4 : (s.toList == [95]) = false := by simpa using b3
         have hv : nameV s.data.toList = !hasB resW s.data.toList := by simp only [nameV, t4, hn, hsz]; simp [a1, a2, a3]
         have HV := Lib.hid hv
         clear hv a3 t4 hsz hn a1
         go_enter Tryz.func73, Tryz.ntmps73
         go_wp2_with (first | (go_at_call 88; refine HS.out.mono ?_; rintro e w' ⟨rfl, hb⟩) | (go_at_call 89; refine (HRV.out _).mono ?_; rintro e w2 ⟨rfl, hb2⟩))
         go_ret
         exact ⟨ret_bool HV.out.symm, below_then hb hb2⟩
     · have b2 : ¬ (s.size : Int) ≤ 40 := by omega
       have hv : nameV s.data.toList = false := by simp only [nameV, hsz]; simp; omega
       have HV := Lib.hid hv
       clear hv t4 hsz hn a1
       go_enter Tryz.func73, Tryz.ntmps73
       go_wp2_with (first | (go_at_call 88; refine HS.out.mono ?_; rintro e w' ⟨rfl, hb⟩))
       go_ret
       exact ⟨ret_bool HV.out.symm, hb⟩
   · have b1 : ((n : Int) == (s.size : Int)) = false := beq_eq_false_iff_ne.2 (by omega)
     have hv : nameV s.data.toList = false := by simp only [nameV, hn, hsz]; simp [a1]
     have HV := Lib.hid hv
     clear hv t4 hsz hn a1
     go_enter Tryz.func73, Tryz.ntmps73
     go_wp2_with (first | (go_at_call 88; refine HS.out.mono ?_; rintro e w' ⟨rfl, hb⟩))
     go_ret
     exact ⟨ret_bool HV.out.symm, hb⟩
 · have hz : s.size = 0 := by omega
   have t1 := toList_nil hz
   have t3 : s.toList.isEmpty = true := by rw [t1]; rfl
   have hd : s.data.toList = [] := List.eq_nil_of_length_eq_zero hz
   have HV := Lib.hid (show nameV s.data.toList = false by rw [hd]; rfl)
   clear hd
   go_enter Tryz.func73, Tryz.ntmps73
   go_wp2_with fail
   go_ret
   exact ⟨ret_bool HV.out.symm, Below.refl _ _⟩
end Go.Proofs.YtacdfjlncfidgaaGreatDoor
