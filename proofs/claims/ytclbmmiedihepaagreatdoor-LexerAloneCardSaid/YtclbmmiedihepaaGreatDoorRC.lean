/- Code points' bytes, plainly. The document's Step and Broken (layer 3). -/
import Derived.Test.YtclbmmiedihepaaGreatDoorRB
namespace Go.Proofs.YtclbmmiedihepaaGreatDoor
section
open Go.RowKit
set_option linter.unusedVariables false
set_option linter.unusedSimpArgs false
/-- Do n bytes follow, the first of them within lo and hi? -/
def okC : Nat → Nat → Nat → BL → Bool
 | _, _, 0, _ => true
 | lo, hi, n + 1, x :: r => decide (lo ≤ x.toNat) && decide (x.toNat ≤ hi) && okC 128 191 n r
 | _, _, _ + 1, [] => false
/-- How many bytes follow a first one, and within what the first of them is. -/
def hdC (c : Nat) : Nat × Nat × Nat :=
 if c < 194 then (0, 128, 191) else if c < 224 then (1, 128, 191) else if c = 224 then (2, 160, 191) else if c = 237 then (2, 128, 159) else if c < 240 then (2, 128, 191)
 else if c = 240 then (3, 144, 191) else if c < 244 then (3, 128, 191) else if c = 244 then (3, 128, 143) else (0, 128, 191)
/-- How many bytes the code point has that a text begins with; 0: none. -/
def stepV (L : BL) : Nat := match L with
 | [] => 0
 | c :: r => if c.toNat < 128 then 1 else if (hdC c.toNat).1 ≠ 0 ∧ okC (hdC c.toNat).2.1 (hdC c.toNat).2.2 (hdC c.toNat).1 r = true then (hdC c.toNat).1 + 1 else 0
theorem get_at {s : ByteArray} {L : BL} (h : s.data.toList = L) (k : Nat) (x : UInt8) (hk : L[k]? = some x) : s.get! (0 + k) = x := by
 have hlt : k < s.data.toList.length := by rw [h]; exact (List.getElem?_eq_some_iff.1 hk).1
 have : s.get! (0 + k) = s.data[k]! := by rw [Nat.zero_add]; rfl
 rw [this, getElem!_pos s.data k hlt]
 have h2 : s.data.toList[k]? = some s.data[k] := by rw [List.getElem?_eq_getElem hlt]; rfl
 rw [h, hk] at h2
 exact (Option.some.inj h2).symm
theorem byte_lt (x : UInt8) : x.toNat < 256 := UInt8.toNat_lt x
theorem utf_valid (n : Nat) : Utf8.valid (n : Int) = true ↔ n < 55296 ∨ (57344 ≤ n ∧ n ≤ 1114111) := by
 unfold Utf8.valid
 simp only [Bool.or_eq_true, Bool.and_eq_true, decide_eq_true_eq]
 omega
theorem hdC_cases (c : Nat) : (c < 194 ∧ hdC c = (0, 128, 191)) ∨ (194 ≤ c ∧ c < 224 ∧ hdC c = (1, 128, 191)) ∨ (c = 224 ∧ hdC c = (2, 160, 191)) ∨ (c = 237 ∧ hdC c = (2, 128, 159)) ∨ (224 < c ∧ c < 240 ∧ c ≠ 237 ∧ hdC c = (2, 128, 191)) ∨ (c = 240 ∧ hdC c = (3, 144, 191)) ∨ (240 < c ∧ c < 244 ∧ hdC c = (3, 128, 191)) ∨ (c = 244 ∧ hdC c = (3, 128, 143)) ∨ (244 < c ∧ hdC c = (0, 128, 191)) := by
 unfold hdC
 by_cases h1 : c < 194
 · simp [h1]
 by_cases h2 : c < 224
 · simp [h1, h2]; omega
 by_cases h3 : c = 224
 · simp [h3]
 by_cases h4 : c = 237
 · simp [h4]
 by_cases h5 : c < 240
 · simp [h1, h2, h3, h4, h5]; omega
 by_cases h6 : c = 240
 · simp [h6]
 by_cases h7 : c < 244
 · simp [h1, h2, h3, h4, h5, h6, h7]; omega
 by_cases h8 : c = 244
 · simp [h8]
 · simp [h1, h2, h3, h4, h5, h6, h7, h8]; omega
/-- The second of what Go's decoder hands back, in numbers: m bytes follow the first. -/
def dec2 (b x y z m : Nat) : Nat :=
 if b < 128 then 1
 else if b / 32 = 6 ∧ 1 ≤ m ∧ x / 64 = 2 then (if 128 ≤ (b % 32) * 64 + x % 64 then 2 else 1)
 else if b / 16 = 14 ∧ (1 ≤ m ∧ x / 64 = 2) ∧ (2 ≤ m ∧ y / 64 = 2) then (if 2048 ≤ (b % 16) * 4096 + (x % 64) * 64 + y % 64 ∧ ((b % 16) * 4096 + (x % 64) * 64 + y % 64 < 55296 ∨ (57344 ≤ (b % 16) * 4096 + (x % 64) * 64 + y % 64 ∧ (b % 16) * 4096 + (x % 64) * 64 + y % 64 ≤ 1114111)) then 3 else 1)
 else if b / 8 = 30 ∧ (1 ≤ m ∧ x / 64 = 2) ∧ (2 ≤ m ∧ y / 64 = 2) ∧ (3 ≤ m ∧ z / 64 = 2) then (if 65536 ≤ (b % 8) * 262144 + (x % 64) * 4096 + (y % 64) * 64 + z % 64 ∧ ((b % 8) * 262144 + (x % 64) * 4096 + (y % 64) * 64 + z % 64 < 55296 ∨ (57344 ≤ (b % 8) * 262144 + (x % 64) * 4096 + (y % 64) * 64 + z % 64 ∧ (b % 8) * 262144 + (x % 64) * 4096 + (y % 64) * 64 + z % 64 ≤ 1114111)) then 4 else 1)
 else 1
def decG (b x y z n : Nat) : Nat × Nat :=
 if b < 0x80 then (b, 1)
 else if b / 32 == 6 && (decide (0 + 1 < n) && x / 64 == 2) then
  (if (b % 32) * 64 + x % 64 ≥ 0x80 then ((b % 32) * 64 + x % 64, 2) else (Utf8.runeError, 1))
 else if b / 16 == 14 && (decide (0 + 1 < n) && x / 64 == 2) && (decide (0 + 2 < n) && y / 64 == 2) then
  (if decide ((b % 16) * 4096 + (x % 64) * 64 + y % 64 ≥ 0x800) && Utf8.valid ((b % 16) * 4096 + (x % 64) * 64 + y % 64 : Nat) then ((b % 16) * 4096 + (x % 64) * 64 + y % 64, 3) else (Utf8.runeError, 1))
 else if b / 8 == 30 && (decide (0 + 1 < n) && x / 64 == 2) && (decide (0 + 2 < n) && y / 64 == 2) && (decide (0 + 3 < n) && z / 64 == 2) then
  (if decide ((b % 8) * 262144 + (x % 64) * 4096 + (y % 64) * 64 + z % 64 ≥ 0x10000) && Utf8.valid ((b % 8) * 262144 + (x % 64) * 4096 + (y % 64) * 64 + z % 64 : Nat) then ((b % 8) * 262144 + (x % 64) * 4096 + (y % 64) * 64 + z % 64, 4) else (Utf8.runeError, 1))
 else (Utf8.runeError, 1)
set_option maxRecDepth 100000 in
theorem decG_2 (b x y z n : Nat) : (decG b x y z n).2 = dec2 b x y z (n - 1) := by
 have e1 : (0 + 1 < n) ↔ 1 ≤ n - 1 := by omega
 have e2 : (0 + 2 < n) ↔ 2 ≤ n - 1 := by omega
 have e3 : (0 + 3 < n) ↔ 3 ≤ n - 1 := by omega
 unfold decG dec2
 simp only [Bool.and_eq_true, decide_eq_true_eq, beq_iff_eq, utf_valid, e1, e2, e3, ge_iff_le, and_assoc, apply_ite Prod.snd]
theorem decode_is (s : ByteArray) : (Utf8.decode s 0).2 = dec2 (s.get! (0 + 0)).toNat (s.get! (0 + 1)).toNat (s.get! (0 + 2)).toNat (s.get! (0 + 3)).toNat (s.size - 1) :=
 (congrArg Prod.snd (show Utf8.decode s 0 = decG (s.get! (0 + 0)).toNat (s.get! (0 + 1)).toNat (s.get! (0 + 2)).toNat (s.get! (0 + 3)).toNat s.size from rfl)).trans (decG_2 _ _ _ _ _)
theorem dec2_2 (b x y z m : Nat) (hb : 194 ≤ b) (hb2 : b < 224) (hx : x < 256) : dec2 b x y z m = if 1 ≤ m ∧ 128 ≤ x ∧ x ≤ 191 then 2 else 1 := by
 unfold dec2
 rw [if_neg (by omega)]
 by_cases h : 1 ≤ m ∧ 128 ≤ x ∧ x ≤ 191
 · rw [if_pos (by omega), if_pos (by omega), if_pos h]
 · rw [if_neg (by omega), if_neg (by omega), if_neg (by omega), if_neg h]
theorem dec2_0 (b x y z m : Nat) (hb : 128 ≤ b) (hb2 : b < 194) : dec2 b x y z m = 1 := by
 unfold dec2
 rw [if_neg (by omega)]
 by_cases h : b / 32 = 6 ∧ 1 ≤ m ∧ x / 64 = 2
 · rw [if_pos h, if_neg (by omega)]
 · rw [if_neg h, if_neg (by omega), if_neg (by omega)]
theorem dec2_3 (b x y z m : Nat) (hb : 224 ≤ b) (hb2 : b < 240) (hx : x < 256) (hy : y < 256) : dec2 b x y z m = if 2 ≤ m ∧ (128 ≤ x ∧ x ≤ 191) ∧ (128 ≤ y ∧ y ≤ 191) ∧ (b = 224 → 160 ≤ x) ∧ (b = 237 → x ≤ 159) then 3 else 1 := by
 unfold dec2
 rw [if_neg (by omega), if_neg (by omega)]
 by_cases h : 2 ≤ m ∧ (128 ≤ x ∧ x ≤ 191) ∧ (128 ≤ y ∧ y ≤ 191)
 · rw [if_pos (by omega)]
   by_cases h2 : (b = 224 → 160 ≤ x) ∧ (b = 237 → x ≤ 159)
   · rw [if_pos (by omega), if_pos ⟨h.1, h.2.1, h.2.2, h2⟩]
   · rw [if_neg (by omega), if_neg (fun hh => h2 ⟨hh.2.2.2.1, hh.2.2.2.2⟩)]
 · rw [if_neg (by omega), if_neg (by omega), if_neg (fun hh => h ⟨hh.1, hh.2.1, hh.2.2.1⟩)]
theorem dec2_4 (b x y z m : Nat) (hb : 240 ≤ b) (hb2 : b < 256) (hx : x < 256) (hy : y < 256) (hz : z < 256) : dec2 b x y z m = if b ≤ 244 ∧ 3 ≤ m ∧ (128 ≤ x ∧ x ≤ 191) ∧ (128 ≤ y ∧ y ≤ 191) ∧ (128 ≤ z ∧ z ≤ 191) ∧ (b = 240 → 144 ≤ x) ∧ (b = 244 → x ≤ 143) then 4 else 1 := by
 unfold dec2
 rw [if_neg (by omega), if_neg (by omega), if_neg (by omega)]
 by_cases h : b / 8 = 30 ∧ 3 ≤ m ∧ (128 ≤ x ∧ x ≤ 191) ∧ (128 ≤ y ∧ y ≤ 191) ∧ (128 ≤ z ∧ z ≤ 191)
 · rw [if_pos (by omega)]
   by_cases h2 : b ≤ 244 ∧ (b = 240 → 144 ≤ x) ∧ (b = 244 → x ≤ 143)
   · rw [if_pos (by omega), if_pos ⟨h2.1, h.2.1, h.2.2.1, h.2.2.2.1, h.2.2.2.2, h2.2⟩]
   · rw [if_neg (by omega), if_neg (fun hh => h2 ⟨hh.1, hh.2.2.2.2.2.1, hh.2.2.2.2.2.2⟩)]
 · rw [if_neg (by omega), if_neg (fun hh => h ⟨by omega, hh.2.1, hh.2.2.1, hh.2.2.2.1, hh.2.2.2.2.1⟩)]
theorem okC_1 (lo hi : Nat) (r : BL) : okC lo hi 1 r = true ↔ ∃ x r', r = x :: r' ∧ lo ≤ x.toNat ∧ x.toNat ≤ hi := by
 cases r with
 | nil => simp [okC]
 | cons x r' => simp [okC]
theorem okC_s (lo hi n : Nat) (r : BL) : okC lo hi (n + 1) r = true ↔ ∃ x r', r = x :: r' ∧ lo ≤ x.toNat ∧ x.toNat ≤ hi ∧ okC 128 191 n r' = true := by
 cases r with
 | nil => simp [okC]
 | cons x r' => simp [okC, and_assoc]
theorem getD_cons (s : ByteArray) (c : UInt8) (r : BL) (h : s.data.toList = c :: r) (k : Nat) (x : UInt8) (hk : r[k]? = some x) : s.get! (0 + (k + 1)) = x := get_at h (k + 1) x (by simpa using hk)
theorem fin_y {n : Nat} {P : Prop} [Decidable P] (hn : n ≠ 0) (h : P) : (if (if n ≠ 0 ∧ P then n + 1 else 0) = 0 then 1 else (if n ≠ 0 ∧ P then n + 1 else 0)) = n + 1 := by
 have e : (if n ≠ 0 ∧ P then n + 1 else 0) = n + 1 := if_pos ⟨hn, h⟩
 simp only [e]
 exact if_neg (by omega)
theorem fin_n {n : Nat} {P : Prop} [Decidable P] (h : ¬ P) : (if (if n ≠ 0 ∧ P then n + 1 else 0) = 0 then 1 else (if n ≠ 0 ∧ P then n + 1 else 0)) = 1 := by
 have e : (if n ≠ 0 ∧ P then n + 1 else 0) = 0 := if_neg (fun hh => h hh.2)
 exact if_pos e
theorem decode_step (s : ByteArray) (c : UInt8) (r : BL) (h : s.data.toList = c :: r) : (Lib.decodeGo s).2 = if stepV (c :: r) = 0 then 1 else stepV (c :: r) := by
 have hsz : s.size = r.length + 1 := by show s.data.toList.length = _; rw [h]; simp
 unfold Lib.decodeGo
 rw [if_neg (by omega), decode_is]
 have g0 := get_at h 0 c rfl
 rw [g0, hsz, Nat.add_sub_cancel]
 obtain ⟨x, hx⟩ : ∃ x, (s.get! (0 + 1)) = x := ⟨_, rfl⟩
 obtain ⟨y, hy⟩ : ∃ y, (s.get! (0 + 2)) = y := ⟨_, rfl⟩
 obtain ⟨z, hz⟩ : ∃ z, (s.get! (0 + 3)) = z := ⟨_, rfl⟩
 rw [hx, hy, hz]
 have hc := byte_lt c
 have bx := byte_lt x
 have by_ := byte_lt y
 have bz := byte_lt z
 have h1 : ∀ a r', r = a :: r' → a = x := fun a r' e => by
  have := getD_cons s c r h 0 a (by rw [e]; rfl)
  exact this.symm.trans hx
 have h2 : ∀ a b r', r = a :: b :: r' → b = y := fun a b r' e => by
  have := getD_cons s c r h 1 b (by rw [e]; rfl)
  exact this.symm.trans hy
 have h3 : ∀ a b d r', r = a :: b :: d :: r' → d = z := fun a b d r' e => by
  have := getD_cons s c r h 2 d (by rw [e]; rfl)
  exact this.symm.trans hz
 have k1 : ∀ lo hi, okC lo hi 1 r = true ↔ 1 ≤ r.length ∧ lo ≤ x.toNat ∧ x.toNat ≤ hi := fun lo hi => by
  rw [okC_1]
  constructor
  · rintro ⟨a, r', e, p1, p2⟩
    have := h1 a r' e; subst this
    exact ⟨by rw [e]; simp, p1, p2⟩
  · rintro ⟨p0, p1, p2⟩
    cases r with
    | nil => simp at p0
    | cons a r' => have := h1 a r' rfl; subst this; exact ⟨_, _, rfl, p1, p2⟩
 have k2 : ∀ lo hi, okC lo hi 2 r = true ↔ 2 ≤ r.length ∧ (lo ≤ x.toNat ∧ x.toNat ≤ hi) ∧ 128 ≤ y.toNat ∧ y.toNat ≤ 191 := fun lo hi => by
  rw [okC_s]
  constructor
  · rintro ⟨a, r', e, p1, p2, p3⟩
    rw [okC_1] at p3
    obtain ⟨b, r'', e2, p4, p5⟩ := p3
    subst e2
    have := h1 a _ e; subst this
    have := h2 _ b _ e; subst this
    exact ⟨by rw [e]; simp, ⟨p1, p2⟩, p4, p5⟩
  · rintro ⟨p0, ⟨p1, p2⟩, p3, p4⟩
    match r, p0, h1, h2 with
    | a :: b :: r', _, h1, h2 =>
     have := h1 a _ rfl; subst this
     have := h2 _ b _ rfl; subst this
     exact ⟨_, _, rfl, p1, p2, (okC_1 _ _ _).2 ⟨_, _, rfl, p3, p4⟩⟩
 have k3 : ∀ lo hi, okC lo hi 3 r = true ↔ 3 ≤ r.length ∧ (lo ≤ x.toNat ∧ x.toNat ≤ hi) ∧ (128 ≤ y.toNat ∧ y.toNat ≤ 191) ∧ 128 ≤ z.toNat ∧ z.toNat ≤ 191 := fun lo hi => by
  rw [okC_s]
  constructor
  · rintro ⟨a, r', e, p1, p2, p3⟩
    rw [okC_s] at p3
    obtain ⟨b, r'', e2, p4, p5, p6⟩ := p3
    rw [okC_1] at p6
    obtain ⟨d, r3, e3, p7, p8⟩ := p6
    subst e3 e2
    have := h1 a _ e; subst this
    have := h2 _ b _ e; subst this
    have := h3 _ _ d _ e; subst this
    exact ⟨by rw [e]; simp, ⟨p1, p2⟩, ⟨p4, p5⟩, p7, p8⟩
  · rintro ⟨p0, ⟨p1, p2⟩, ⟨p3, p4⟩, p5, p6⟩
    match r, p0, h1, h2, h3 with
    | a :: b :: d :: r', _, h1, h2, h3 =>
     have := h1 a _ rfl; subst this
     have := h2 _ b _ rfl; subst this
     have := h3 _ _ d _ rfl; subst this
     exact ⟨_, _, rfl, p1, p2, (okC_s _ _ _ _).2 ⟨_, _, rfl, p3, p4, (okC_1 _ _ _).2 ⟨_, _, rfl, p5, p6⟩⟩⟩
 have hst : stepV (c :: r) = if c.toNat < 128 then 1 else if (hdC c.toNat).1 ≠ 0 ∧ okC (hdC c.toNat).2.1 (hdC c.toNat).2.2 (hdC c.toNat).1 r = true then (hdC c.toNat).1 + 1 else 0 := rfl
 rw [hst]
 clear hst
 generalize r.length = m at *
 clear h h1 h2 h3 hx hy hz g0 hsz
 by_cases c1 : c.toNat < 128
 · rw [if_pos c1]; unfold dec2; rw [if_pos c1]; rfl
 rw [if_neg c1]
 rcases hdC_cases c.toNat with ⟨p1, e⟩ | ⟨p1, p2, e⟩ | ⟨p1, e⟩ | ⟨p1, e⟩ | ⟨p1, p2, p3, e⟩ | ⟨p1, e⟩ | ⟨p1, p2, e⟩ | ⟨p1, e⟩ | ⟨p1, e⟩ <;> rw [e] <;> simp only [k1, k2, k3]
 · rw [dec2_0 _ _ _ _ _ (by omega) p1]; simp
 · rw [dec2_2 _ _ _ _ _ p1 p2 bx]
   by_cases q : 1 ≤ m ∧ 128 ≤ x.toNat ∧ x.toNat ≤ 191
   · rw [if_pos q]; exact (fin_y (by decide) q).symm
   · rw [if_neg q]; exact (fin_n q).symm
 · rw [dec2_3 _ _ _ _ _ (by omega) (by omega) bx by_]
   by_cases q : 2 ≤ m ∧ (160 ≤ x.toNat ∧ x.toNat ≤ 191) ∧ 128 ≤ y.toNat ∧ y.toNat ≤ 191
   · rw [if_pos (by omega)]; exact (fin_y (by decide) q).symm
   · rw [if_neg (by omega)]; exact (fin_n q).symm
 · rw [dec2_3 _ _ _ _ _ (by omega) (by omega) bx by_]
   by_cases q : 2 ≤ m ∧ (128 ≤ x.toNat ∧ x.toNat ≤ 159) ∧ 128 ≤ y.toNat ∧ y.toNat ≤ 191
   · rw [if_pos (by omega)]; exact (fin_y (by decide) q).symm
   · rw [if_neg (by omega)]; exact (fin_n q).symm
 · rw [dec2_3 _ _ _ _ _ (by omega) (by omega) bx by_]
   by_cases q : 2 ≤ m ∧ (128 ≤ x.toNat ∧ x.toNat ≤ 191) ∧ 128 ≤ y.toNat ∧ y.toNat ≤ 191
   · rw [if_pos (by omega)]; exact (fin_y (by decide) q).symm
   · rw [if_neg (by omega)]; exact (fin_n q).symm
 · rw [dec2_4 _ _ _ _ _ (by omega) (by omega) bx by_ bz]
   by_cases q : 3 ≤ m ∧ (144 ≤ x.toNat ∧ x.toNat ≤ 191) ∧ (128 ≤ y.toNat ∧ y.toNat ≤ 191) ∧ 128 ≤ z.toNat ∧ z.toNat ≤ 191
   · rw [if_pos (by omega)]; exact (fin_y (by decide) q).symm
   · rw [if_neg (by omega)]; exact (fin_n q).symm
 · rw [dec2_4 _ _ _ _ _ (by omega) (by omega) bx by_ bz]
   by_cases q : 3 ≤ m ∧ (128 ≤ x.toNat ∧ x.toNat ≤ 191) ∧ (128 ≤ y.toNat ∧ y.toNat ≤ 191) ∧ 128 ≤ z.toNat ∧ z.toNat ≤ 191
   · rw [if_pos (by omega)]; exact (fin_y (by decide) q).symm
   · rw [if_neg (by omega)]; exact (fin_n q).symm
 · rw [dec2_4 _ _ _ _ _ (by omega) (by omega) bx by_ bz]
   by_cases q : 3 ≤ m ∧ (128 ≤ x.toNat ∧ x.toNat ≤ 143) ∧ (128 ≤ y.toNat ∧ y.toNat ≤ 191) ∧ 128 ≤ z.toNat ∧ z.toNat ≤ 191
   · rw [if_pos (by omega)]; exact (fin_y (by decide) q).symm
   · rw [if_neg (by omega)]; exact (fin_n q).symm
 · rw [dec2_4 _ _ _ _ _ (by omega) (by omega) bx by_ bz]
   rw [if_neg (by omega)]; simp
theorem stepV_le (L : BL) : stepV L ≤ L.length := by
 have hok : ∀ n lo hi r, okC lo hi n r = true → n ≤ r.length := by
  intro n
  induction n with
  | zero => intros; omega
  | succ n ih =>
   intro lo hi r h
   cases r with
   | nil => simp [okC] at h
   | cons x r => simp only [okC, Bool.and_eq_true] at h; have := ih _ _ _ h.2; simp; omega
 unfold stepV
 cases L with
 | nil => simp
 | cons c r =>
  simp only
  split
  · simp
  · split
    · rename_i h; have := hok _ _ _ _ h.2; simp; omega
    · omega
/-- The first place from which on a text is not made of code points; none: there is none. -/
def brkV (L : BL) (at_ : Nat) : Option Nat :=
 if h : at_ < L.length then
  if h2 : stepV (L.drop at_) = 0 then some at_ else brkV L (at_ + stepV (L.drop at_))
 else none
termination_by L.length - at_
theorem brkV_end {L : BL} {k : Nat} (h : L.length ≤ k) : brkV L k = none := by rw [brkV, dif_neg (by omega)]
theorem brkV_zero {L : BL} {k : Nat} (h : k < L.length) (h2 : stepV (L.drop k) = 0) : brkV L k = some k := by rw [brkV, dif_pos h, dif_pos h2]
theorem brkV_step {L : BL} {k : Nat} (h : k < L.length) (h2 : stepV (L.drop k) ≠ 0) : brkV L k = brkV L (k + stepV (L.drop k)) := by rw [brkV, dif_pos h, dif_neg h2]
def brkOut (o : Option Nat) : Value := match o with | some k => .int .i64 (k : Nat) | none => .int .i64 (-1)
abbrev U8T (w : World) : Prop := Lib.Utf8Tabs 0 1 w
theorem ascii_step {c : UInt8} {r : BL} : stepV (c :: r) ≤ 1 → stepV (c :: r) ≠ 0 → c.toNat < 128 := by
 unfold stepV
 simp only
 split
 · intros; assumption
 · split <;> intros <;> omega
set_option maxRecDepth 100000 in
set_option maxHeartbeats 1600000 in
theorem lbroken (s : ByteArray) (w : World) (hs : s.size ≤ 1000000) (hU : U8T w) :
  Calls Tryz.prog 25 #[.string s] w fun e w' => e = .returned (brkOut (brkV s.data.toList 0)) ∧ Below w.heap.size w w' := by
 have hsz : s.data.toList.length = s.size := rfl
 have HSZ := Lib.hid hsz
 have HU := Lib.hid hU
 clear hsz hU
 go_enter Tryz.func25, Tryz.ntmps25
 go_wp2_with fail
 go_loopw [3] (fun iv wr => ∃ k : Nat, k ≤ s.size ∧ iv = .int .i64 k ∧ brkV s.data.toList 0 = brkV s.data.toList k ∧ Below w.heap.size w wr) (fun iv _ => s.size - (intOf iv).toNat)
 case atStart => exact ⟨0, Nat.zero_le _, rfl, rfl, Below.refl _ _⟩
 case round =>
  obtain ⟨k, hk, rfl, hv, hb⟩ := hrel
  have HB := Lib.hid hb
  clear hb
  by_cases hlt : k < s.size
  · have hlt2 : (k : Int) < (s.size : Int) := by omega
    have hkle : (k : Int) ≤ (s.size : Int) := by omega
    obtain ⟨c, hc⟩ : ∃ c, s[k] = c := ⟨_, rfl⟩
    have hdr := drop_at (at_get hlt)
    rw [hc] at hdr
    have hD := Tryz.utf8_DecodeRuneInString (s.extract k s.size) wr (Utf8Tabs_below HU.out HB.out)
    have hds := decode_step (s.extract k s.size) c (s.data.toList.drop (k + 1)) (by rw [ext_list, hdr])
    rw [hds, ← hdr] at hD
    obtain ⟨r1, hr1⟩ : ∃ r1, (Lib.decodeGo (s.extract k s.size)).1 = r1 := ⟨_, rfl⟩
    rw [hr1] at hD
    have hasc := ascii_step (c := c) (r := s.data.toList.drop (k + 1))
    rw [← hdr] at hasc
    have hge : stepV (s.data.toList.drop k) = 0 → ¬ c.toNat < 128 := by
     intro h h2
     rw [hdr] at h
     have : stepV (c :: s.data.toList.drop (k + 1)) = 1 := if_pos h2
     omega
    have hle := stepV_le (s.data.toList.drop k)
    rw [List.length_drop, HSZ.out] at hle
    have HZ := Lib.hid (fun h2 => brkV_zero (L := s.data.toList) (k := k) (by rw [HSZ.out]; exact hlt) h2)
    have HST := Lib.hid (fun h2 => brkV_step (L := s.data.toList) (k := k) (by rw [HSZ.out]; exact hlt) h2)
    obtain ⟨n, hn⟩ : ∃ n, stepV (s.data.toList.drop k) = n := ⟨_, rfl⟩
    rw [hn] at hD hle hasc hge
    simp only [hn] at HZ HST
    clear hdr hr1 hds hn
    by_cases hn0 : n = 0
    · subst hn0
      have HD := Lib.hid (show Calls Tryz.prog 50 #[.string (s.extract k s.size)] wr fun e w' => e = .returned (.tuple #[.int .i32 (r1 : Nat), .int .i64 1]) ∧ Below wr.heap.size wr w' from hD)
      have b1 : (128 : Int) ≤ (c.toNat : Int) := by have := hge rfl; omega
      have HV := Lib.hid (hv.trans (HZ.out rfl))
      clear hD hv hasc hge hle
      go_wp2_with (first | (go_at_call 50; refine HD.out.mono ?_; rintro e w' ⟨rfl, hb2⟩))
      go_ret
      exact ⟨by rw [HV.out]; rfl, HB.out.trans (hb2.mono HB.out.size)⟩
    · rw [if_neg hn0] at hD
      have HD := Lib.hid hD
      have HV := Lib.hid (hv.trans (HST.out hn0))
      by_cases hn1 : n = 1
      · subst hn1
        have HD := Lib.hid (show Calls Tryz.prog 50 #[.string (s.extract k s.size)] wr fun e w' => e = .returned (.tuple #[.int .i32 (r1 : Nat), .int .i64 1]) ∧ Below wr.heap.size wr w' from hD)
        have b1 : ¬ (128 : Int) ≤ (c.toNat : Int) := by have := hasc (Nat.le_refl _) (by decide); omega
        clear hD hv hasc hge
        go_wp2_with (first | (go_at_call 50; refine HD.out.mono ?_; rintro e w' ⟨rfl, hb2⟩))
        go_roundw
        case rel => exact ⟨k + 1, by omega, by go_num, HV.out, HB.out.trans (hb2.mono HB.out.size)⟩
        case measure => simp only [intOf]; omega
      · have b1 : ((n : Int) == 1) = false := beq_eq_false_iff_ne.2 (by omega)
        clear hD hv hasc hge
        go_wp2_with (first | (go_at_call 50; refine HD.out.mono ?_; rintro e w' ⟨rfl, hb2⟩))
        go_roundw
        case rel => exact ⟨k + n, by omega, by go_num, HV.out, HB.out.trans (hb2.mono HB.out.size)⟩
        case measure => simp only [intOf]; omega
  · have hlt2 : ¬ (k : Int) < (s.size : Int) := by omega
    have HV := Lib.hid (hv.trans (brkV_end (by rw [HSZ.out]; omega)))
    clear hv
    go_wp2_with fail
    go_ret
    exact ⟨by rw [HV.out]; rfl, HB.out⟩
end

section
open Go.RowKit
set_option linter.unusedVariables false
set_option linter.unusedSimpArgs false
theorem okC_short {n : Nat} : ∀ {lo hi : Nat} {r : BL}, r.length < n → okC lo hi n r = false := by
 induction n with
 | zero => intro lo hi r h; omega
 | succ n ih =>
  intro lo hi r h
  cases r with
  | nil => rfl
  | cons x r => simp only [okC, ih (lo := 128) (hi := 191) (r := r) (by simp at h; omega)]; simp
theorem stepV_hd {s : ByteArray} {k : Nat} {c : UInt8} (h : k < s.size) (hc : s[k] = c) : stepV (s.data.toList.drop k) = if c.toNat < 128 then 1 else if (hdC c.toNat).1 ≠ 0 ∧ okC (hdC c.toNat).2.1 (hdC c.toNat).2.2 (hdC c.toNat).1 (s.data.toList.drop (k + 1)) = true then (hdC c.toNat).1 + 1 else 0 := by
 have := drop_at (at_get h)
 rw [hc] at this
 rw [this]; rfl
set_option maxRecDepth 100000 in
set_option maxHeartbeats 1600000 in
theorem rstep_B (s : ByteArray) (k : Nat) (c : UInt8) (w : World) (hs : s.size ≤ 1000000) (h : k < s.size) (hc : s[k] = c) (c1 : 128 ≤ c.toNat) (c2 : c.toNat ≤ 193) :
  Calls Tryz.prog 58 #[.string s, .int .i64 (k : Int)] w fun e w' => e = .returned (.int .i64 (stepV (s.data.toList.drop k))) ∧ w' = w := by
 have hlt : (k : Int) < (s.size : Int) := by omega
 have hv := stepV_hd h hc
 rw [if_neg (by omega), show hdC c.toNat = (0, 128, 191) by unfold hdC; repeat' (first | rfl | omega | split)] at hv
 have f0 : ¬ (c.toNat : Int) < 128 := by omega
 have f1 : (c.toNat : Int) ≤ 255 := by omega
 have g0 : ¬ (194 : Int) ≤ (c.toNat : Int) := by omega
 have g1 : ¬ (224 : Int) ≤ (c.toNat : Int) := by omega
 have g2 : ¬ (240 : Int) ≤ (c.toNat : Int) := by omega
 have e0 : (c.toNat : Int) ≤ 223 := by omega
 have e1 : (c.toNat : Int) ≤ 239 := by omega
 have e2 : (c.toNat : Int) ≤ 244 := by omega
 have q0 : ((c.toNat : Int) == 224) = false := beq_eq_false_iff_ne.2 (by omega)
 have q1 : ((c.toNat : Int) == 237) = false := beq_eq_false_iff_ne.2 (by omega)
 have q2 : ((c.toNat : Int) == 240) = false := beq_eq_false_iff_ne.2 (by omega)
 have q3 : ((c.toNat : Int) == 244) = false := beq_eq_false_iff_ne.2 (by omega)
 have HV := Lib.hid (show stepV (s.data.toList.drop k) = 0 by rw [hv]; rfl)
 clear hv c1 c2
 go_enter Tryz.func58, Tryz.ntmps58
 go_wp2_with fail
 go_ret
 exact ⟨ret_int (by rw [HV.out]; rfl), rfl⟩
set_option maxRecDepth 100000 in
set_option maxHeartbeats 1600000 in
theorem rstep_C (s : ByteArray) (k : Nat) (c : UInt8) (w : World) (hs : s.size ≤ 1000000) (h : k < s.size) (hc : s[k] = c) (c1 : 194 ≤ c.toNat) (c2 : c.toNat ≤ 223) :
  Calls Tryz.prog 58 #[.string s, .int .i64 (k : Int)] w fun e w' => e = .returned (.int .i64 (stepV (s.data.toList.drop k))) ∧ w' = w := by
 have hlt : (k : Int) < (s.size : Int) := by omega
 have hv := stepV_hd h hc
 rw [if_neg (by omega), show hdC c.toNat = (1, 128, 191) by unfold hdC; repeat' (first | rfl | omega | split)] at hv
 have f0 : ¬ (c.toNat : Int) < 128 := by omega
 have f1 : (c.toNat : Int) ≤ 255 := by omega
 have g0 : (194 : Int) ≤ (c.toNat : Int) := by omega
 have g1 : ¬ (224 : Int) ≤ (c.toNat : Int) := by omega
 have g2 : ¬ (240 : Int) ≤ (c.toNat : Int) := by omega
 have e0 : (c.toNat : Int) ≤ 223 := by omega
 have e1 : (c.toNat : Int) ≤ 239 := by omega
 have e2 : (c.toNat : Int) ≤ 244 := by omega
 have q0 : ((c.toNat : Int) == 224) = false := beq_eq_false_iff_ne.2 (by omega)
 have q1 : ((c.toNat : Int) == 237) = false := beq_eq_false_iff_ne.2 (by omega)
 have q2 : ((c.toNat : Int) == 240) = false := beq_eq_false_iff_ne.2 (by omega)
 have q3 : ((c.toNat : Int) == 244) = false := beq_eq_false_iff_ne.2 (by omega)
 obtain ⟨R, hR⟩ : ∃ R, s.data.toList.drop (k + 1) = R := ⟨_, rfl⟩
 have hRl : R.length + (k + 1) = s.size := by rw [← hR, List.length_drop]; show s.size - (k + 1) + (k + 1) = s.size; omega
 have hget : ∀ j, (hj : k + 1 + j < s.size) → R[j]? = some (s[k + 1 + j]'hj) := fun j hj => by rw [← hR, List.getElem?_drop]; exact at_get hj
 rw [hR] at hv
 by_cases hsh : s.size ≤ k + 1
 · have hsh2 : (s.size : Int) ≤ (k : Int) + 1 := by omega
   have HV := Lib.hid (show stepV (s.data.toList.drop k) = 0 by rw [hv, okC_short (by show R.length < 1; omega)]; rfl)
   clear hv c1 c2 hR hget
   go_enter Tryz.func58, Tryz.ntmps58
   go_wp2_with fail
   go_ret
   exact ⟨ret_int (by rw [HV.out]; rfl), rfl⟩
 · have hsh2 : ¬ (s.size : Int) ≤ (k : Int) + 1 := by omega
   have HV := Lib.hid (show stepV (s.data.toList.drop k) = if okC 128 191 1 R = true then 2 else 0 by rw [hv]; simp)
   have HG := Lib.hid hget
   clear hv c1 c2 hR hget
   go_enter Tryz.func58, Tryz.ntmps58
   go_wp2_with fail
   go_loopw [5, 6, 9] (fun a b iv wr => ∃ j lo hi : Nat, a = .int .i64 lo ∧ b = .int .i64 hi ∧ iv = .int .i64 j ∧ 1 ≤ j ∧ j ≤ 2 ∧ okC 128 191 1 R = okC lo hi (2 - j) (R.drop (j - 1)) ∧ wr = w) (fun _ _ iv _ => 3 - (intOf iv).toNat)
   case atStart => exact ⟨1, 128, 191, rfl, rfl, rfl, Nat.le_refl _, by omega, rfl, rfl⟩
   case round =>
    obtain ⟨j, lo, hi, rfl, rfl, rfl, hj1, hj2, hok, rfl⟩ := hrel
    by_cases hjn : j ≤ 1
    · have hjn2 : (j : Int) ≤ 1 := by omega
      obtain ⟨p, hp⟩ : ∃ p, k + j = p := ⟨_, rfl⟩
      have hjp : k + 1 + (j - 1) = p := by omega
      have hps : p < s.size := by omega
      obtain ⟨x, hx⟩ : ∃ x, s[p]'hps = x := ⟨_, rfl⟩
      have bx0 : (0 : Int) ≤ (x.toNat : Int) := by omega
      have bx1 : (x.toNat : Int) ≤ 255 := by have := byte_lt x; omega
      have hg := HG.out (j - 1) (by omega)
      have hg2 : R[j - 1]? = some x := by rw [hg]; simp only [hjp]; rw [hx]
      have hd := drop_at hg2
      have hkj : (k : Int) + (j : Int) = (p : Int) := by omega
      have hps2 : (p : Int) < (s.size : Int) := by omega
      rw [show 2 - j = (1 - j) + 1 by omega, hd, show j - 1 + 1 = j by omega] at hok
      simp only [okC] at hok
      by_cases x1 : x.toNat < lo
      · have y1 : (x.toNat : Int) < (lo : Int) := by omega
        have HW := Lib.hid (show stepV (s.data.toList.drop k) = 0 by
         rw [HV.out, hok, decide_eq_false (by omega)]; rfl)
        clear hok hg hg2 hd hjp hp x1
        go_wp2_with fail
        go_ret
        exact ⟨ret_int (by rw [HW.out]; rfl), rfl⟩
      · have y1 : ¬ (x.toNat : Int) < (lo : Int) := by omega
        by_cases x2 : hi < x.toNat
        · have y2 : (hi : Int) < (x.toNat : Int) := by omega
          have HW := Lib.hid (show stepV (s.data.toList.drop k) = 0 by
           rw [HV.out, hok, decide_eq_false (p := x.toNat ≤ hi) (by omega)]; simp)
          clear hok hg hg2 hd hjp hp x1 x2
          go_wp2_with fail
          go_ret
          exact ⟨ret_int (by rw [HW.out]; rfl), rfl⟩
        · have y2 : ¬ (hi : Int) < (x.toNat : Int) := by omega
          rw [decide_eq_true (p := lo ≤ x.toNat) (by omega), decide_eq_true (p := x.toNat ≤ hi) (by omega), Bool.true_and, Bool.true_and] at hok
          have HOK := Lib.hid hok
          clear hok hg hg2 hd hjp hp x1 x2
          go_wp2_with fail
          go_roundw
          case rel => exact ⟨j + 1, 128, 191, rfl, rfl, by go_num, by omega, by omega, by rw [HOK.out, show 2 - (j + 1) = 1 - j by omega, Nat.add_sub_cancel], trivial⟩
          case measure => simp only [intOf]; omega
    · have hj4 : j = 2 := by omega
      subst hj4
      have HW := Lib.hid (show stepV (s.data.toList.drop k) = 2 by rw [HV.out, hok]; rfl)
      clear hok
      go_wp2_with fail
      go_ret
      exact ⟨ret_int (by rw [HW.out]; rfl), rfl⟩
set_option maxRecDepth 100000 in
set_option maxHeartbeats 1600000 in
theorem rstep_D (s : ByteArray) (k : Nat) (c : UInt8) (w : World) (hs : s.size ≤ 1000000) (h : k < s.size) (hc : s[k] = c) (c1 : 224 ≤ c.toNat) (c2 : c.toNat ≤ 224) :
  Calls Tryz.prog 58 #[.string s, .int .i64 (k : Int)] w fun e w' => e = .returned (.int .i64 (stepV (s.data.toList.drop k))) ∧ w' = w := by
 have hlt : (k : Int) < (s.size : Int) := by omega
 have hv := stepV_hd h hc
 rw [if_neg (by omega), show hdC c.toNat = (2, 160, 191) by unfold hdC; repeat' (first | rfl | omega | split)] at hv
 have f0 : ¬ (c.toNat : Int) < 128 := by omega
 have f1 : (c.toNat : Int) ≤ 255 := by omega
 have g0 : (194 : Int) ≤ (c.toNat : Int) := by omega
 have g1 : (224 : Int) ≤ (c.toNat : Int) := by omega
 have g2 : ¬ (240 : Int) ≤ (c.toNat : Int) := by omega
 have e0 : ¬ (c.toNat : Int) ≤ 223 := by omega
 have e1 : (c.toNat : Int) ≤ 239 := by omega
 have e2 : (c.toNat : Int) ≤ 244 := by omega
 have q0 : ((c.toNat : Int) == 224) = true := beq_iff_eq.2 (by omega)
 have q1 : ((c.toNat : Int) == 237) = false := beq_eq_false_iff_ne.2 (by omega)
 have q2 : ((c.toNat : Int) == 240) = false := beq_eq_false_iff_ne.2 (by omega)
 have q3 : ((c.toNat : Int) == 244) = false := beq_eq_false_iff_ne.2 (by omega)
 obtain ⟨R, hR⟩ : ∃ R, s.data.toList.drop (k + 1) = R := ⟨_, rfl⟩
 have hRl : R.length + (k + 1) = s.size := by rw [← hR, List.length_drop]; show s.size - (k + 1) + (k + 1) = s.size; omega
 have hget : ∀ j, (hj : k + 1 + j < s.size) → R[j]? = some (s[k + 1 + j]'hj) := fun j hj => by rw [← hR, List.getElem?_drop]; exact at_get hj
 rw [hR] at hv
 by_cases hsh : s.size ≤ k + 2
 · have hsh2 : (s.size : Int) ≤ (k : Int) + 2 := by omega
   have HV := Lib.hid (show stepV (s.data.toList.drop k) = 0 by rw [hv, okC_short (by show R.length < 2; omega)]; rfl)
   clear hv c1 c2 hR hget
   go_enter Tryz.func58, Tryz.ntmps58
   go_wp2_with fail
   go_ret
   exact ⟨ret_int (by rw [HV.out]; rfl), rfl⟩
 · have hsh2 : ¬ (s.size : Int) ≤ (k : Int) + 2 := by omega
   have HV := Lib.hid (show stepV (s.data.toList.drop k) = if okC 160 191 2 R = true then 3 else 0 by rw [hv]; simp)
   have HG := Lib.hid hget
   clear hv c1 c2 hR hget
   go_enter Tryz.func58, Tryz.ntmps58
   go_wp2_with fail
   go_loopw [5, 6, 9] (fun a b iv wr => ∃ j lo hi : Nat, a = .int .i64 lo ∧ b = .int .i64 hi ∧ iv = .int .i64 j ∧ 1 ≤ j ∧ j ≤ 3 ∧ okC 160 191 2 R = okC lo hi (3 - j) (R.drop (j - 1)) ∧ wr = w) (fun _ _ iv _ => 4 - (intOf iv).toNat)
   case atStart => exact ⟨1, 160, 191, rfl, rfl, rfl, Nat.le_refl _, by omega, rfl, rfl⟩
   case round =>
    obtain ⟨j, lo, hi, rfl, rfl, rfl, hj1, hj2, hok, rfl⟩ := hrel
    by_cases hjn : j ≤ 2
    · have hjn2 : (j : Int) ≤ 2 := by omega
      obtain ⟨p, hp⟩ : ∃ p, k + j = p := ⟨_, rfl⟩
      have hjp : k + 1 + (j - 1) = p := by omega
      have hps : p < s.size := by omega
      obtain ⟨x, hx⟩ : ∃ x, s[p]'hps = x := ⟨_, rfl⟩
      have bx0 : (0 : Int) ≤ (x.toNat : Int) := by omega
      have bx1 : (x.toNat : Int) ≤ 255 := by have := byte_lt x; omega
      have hg := HG.out (j - 1) (by omega)
      have hg2 : R[j - 1]? = some x := by rw [hg]; simp only [hjp]; rw [hx]
      have hd := drop_at hg2
      have hkj : (k : Int) + (j : Int) = (p : Int) := by omega
      have hps2 : (p : Int) < (s.size : Int) := by omega
      rw [show 3 - j = (2 - j) + 1 by omega, hd, show j - 1 + 1 = j by omega] at hok
      simp only [okC] at hok
      by_cases x1 : x.toNat < lo
      · have y1 : (x.toNat : Int) < (lo : Int) := by omega
        have HW := Lib.hid (show stepV (s.data.toList.drop k) = 0 by
         rw [HV.out, hok, decide_eq_false (by omega)]; rfl)
        clear hok hg hg2 hd hjp hp x1
        go_wp2_with fail
        go_ret
        exact ⟨ret_int (by rw [HW.out]; rfl), rfl⟩
      · have y1 : ¬ (x.toNat : Int) < (lo : Int) := by omega
        by_cases x2 : hi < x.toNat
        · have y2 : (hi : Int) < (x.toNat : Int) := by omega
          have HW := Lib.hid (show stepV (s.data.toList.drop k) = 0 by
           rw [HV.out, hok, decide_eq_false (p := x.toNat ≤ hi) (by omega)]; simp)
          clear hok hg hg2 hd hjp hp x1 x2
          go_wp2_with fail
          go_ret
          exact ⟨ret_int (by rw [HW.out]; rfl), rfl⟩
        · have y2 : ¬ (hi : Int) < (x.toNat : Int) := by omega
          rw [decide_eq_true (p := lo ≤ x.toNat) (by omega), decide_eq_true (p := x.toNat ≤ hi) (by omega), Bool.true_and, Bool.true_and] at hok
          have HOK := Lib.hid hok
          clear hok hg hg2 hd hjp hp x1 x2
          go_wp2_with fail
          go_roundw
          case rel => exact ⟨j + 1, 128, 191, rfl, rfl, by go_num, by omega, by omega, by rw [HOK.out, show 3 - (j + 1) = 2 - j by omega, Nat.add_sub_cancel], trivial⟩
          case measure => simp only [intOf]; omega
    · have hj4 : j = 3 := by omega
      subst hj4
      have HW := Lib.hid (show stepV (s.data.toList.drop k) = 3 by rw [HV.out, hok]; rfl)
      clear hok
      go_wp2_with fail
      go_ret
      exact ⟨ret_int (by rw [HW.out]; rfl), rfl⟩
set_option maxRecDepth 100000 in
set_option maxHeartbeats 1600000 in
theorem rstep_F1 (s : ByteArray) (k : Nat) (c : UInt8) (w : World) (hs : s.size ≤ 1000000) (h : k < s.size) (hc : s[k] = c) (c1 : 225 ≤ c.toNat) (c2 : c.toNat ≤ 236) :
  Calls Tryz.prog 58 #[.string s, .int .i64 (k : Int)] w fun e w' => e = .returned (.int .i64 (stepV (s.data.toList.drop k))) ∧ w' = w := by
 have hlt : (k : Int) < (s.size : Int) := by omega
 have hv := stepV_hd h hc
 rw [if_neg (by omega), show hdC c.toNat = (2, 128, 191) by unfold hdC; repeat' (first | rfl | omega | split)] at hv
 have f0 : ¬ (c.toNat : Int) < 128 := by omega
 have f1 : (c.toNat : Int) ≤ 255 := by omega
 have g0 : (194 : Int) ≤ (c.toNat : Int) := by omega
 have g1 : (224 : Int) ≤ (c.toNat : Int) := by omega
 have g2 : ¬ (240 : Int) ≤ (c.toNat : Int) := by omega
 have e0 : ¬ (c.toNat : Int) ≤ 223 := by omega
 have e1 : (c.toNat : Int) ≤ 239 := by omega
 have e2 : (c.toNat : Int) ≤ 244 := by omega
 have q0 : ((c.toNat : Int) == 224) = false := beq_eq_false_iff_ne.2 (by omega)
 have q1 : ((c.toNat : Int) == 237) = false := beq_eq_false_iff_ne.2 (by omega)
 have q2 : ((c.toNat : Int) == 240) = false := beq_eq_false_iff_ne.2 (by omega)
 have q3 : ((c.toNat : Int) == 244) = false := beq_eq_false_iff_ne.2 (by omega)
 obtain ⟨R, hR⟩ : ∃ R, s.data.toList.drop (k + 1) = R := ⟨_, rfl⟩
 have hRl : R.length + (k + 1) = s.size := by rw [← hR, List.length_drop]; show s.size - (k + 1) + (k + 1) = s.size; omega
 have hget : ∀ j, (hj : k + 1 + j < s.size) → R[j]? = some (s[k + 1 + j]'hj) := fun j hj => by rw [← hR, List.getElem?_drop]; exact at_get hj
 rw [hR] at hv
 by_cases hsh : s.size ≤ k + 2
 · have hsh2 : (s.size : Int) ≤ (k : Int) + 2 := by omega
   have HV := Lib.hid (show stepV (s.data.toList.drop k) = 0 by rw [hv, okC_short (by show R.length < 2; omega)]; rfl)
   clear hv c1 c2 hR hget
   go_enter Tryz.func58, Tryz.ntmps58
   go_wp2_with fail
   go_ret
   exact ⟨ret_int (by rw [HV.out]; rfl), rfl⟩
 · have hsh2 : ¬ (s.size : Int) ≤ (k : Int) + 2 := by omega
   have HV := Lib.hid (show stepV (s.data.toList.drop k) = if okC 128 191 2 R = true then 3 else 0 by rw [hv]; simp)
   have HG := Lib.hid hget
   clear hv c1 c2 hR hget
   go_enter Tryz.func58, Tryz.ntmps58
   go_wp2_with fail
   go_loopw [5, 6, 9] (fun a b iv wr => ∃ j lo hi : Nat, a = .int .i64 lo ∧ b = .int .i64 hi ∧ iv = .int .i64 j ∧ 1 ≤ j ∧ j ≤ 3 ∧ okC 128 191 2 R = okC lo hi (3 - j) (R.drop (j - 1)) ∧ wr = w) (fun _ _ iv _ => 4 - (intOf iv).toNat)
   case atStart => exact ⟨1, 128, 191, rfl, rfl, rfl, Nat.le_refl _, by omega, rfl, rfl⟩
   case round =>
    obtain ⟨j, lo, hi, rfl, rfl, rfl, hj1, hj2, hok, rfl⟩ := hrel
    by_cases hjn : j ≤ 2
    · have hjn2 : (j : Int) ≤ 2 := by omega
      obtain ⟨p, hp⟩ : ∃ p, k + j = p := ⟨_, rfl⟩
      have hjp : k + 1 + (j - 1) = p := by omega
      have hps : p < s.size := by omega
      obtain ⟨x, hx⟩ : ∃ x, s[p]'hps = x := ⟨_, rfl⟩
      have bx0 : (0 : Int) ≤ (x.toNat : Int) := by omega
      have bx1 : (x.toNat : Int) ≤ 255 := by have := byte_lt x; omega
      have hg := HG.out (j - 1) (by omega)
      have hg2 : R[j - 1]? = some x := by rw [hg]; simp only [hjp]; rw [hx]
      have hd := drop_at hg2
      have hkj : (k : Int) + (j : Int) = (p : Int) := by omega
      have hps2 : (p : Int) < (s.size : Int) := by omega
      rw [show 3 - j = (2 - j) + 1 by omega, hd, show j - 1 + 1 = j by omega] at hok
      simp only [okC] at hok
      by_cases x1 : x.toNat < lo
      · have y1 : (x.toNat : Int) < (lo : Int) := by omega
        have HW := Lib.hid (show stepV (s.data.toList.drop k) = 0 by
         rw [HV.out, hok, decide_eq_false (by omega)]; rfl)
        clear hok hg hg2 hd hjp hp x1
        go_wp2_with fail
        go_ret
        exact ⟨ret_int (by rw [HW.out]; rfl), rfl⟩
      · have y1 : ¬ (x.toNat : Int) < (lo : Int) := by omega
        by_cases x2 : hi < x.toNat
        · have y2 : (hi : Int) < (x.toNat : Int) := by omega
          have HW := Lib.hid (show stepV (s.data.toList.drop k) = 0 by
           rw [HV.out, hok, decide_eq_false (p := x.toNat ≤ hi) (by omega)]; simp)
          clear hok hg hg2 hd hjp hp x1 x2
          go_wp2_with fail
          go_ret
          exact ⟨ret_int (by rw [HW.out]; rfl), rfl⟩
        · have y2 : ¬ (hi : Int) < (x.toNat : Int) := by omega
          rw [decide_eq_true (p := lo ≤ x.toNat) (by omega), decide_eq_true (p := x.toNat ≤ hi) (by omega), Bool.true_and, Bool.true_and] at hok
          have HOK := Lib.hid hok
          clear hok hg hg2 hd hjp hp x1 x2
          go_wp2_with fail
          go_roundw
          case rel => exact ⟨j + 1, 128, 191, rfl, rfl, by go_num, by omega, by omega, by rw [HOK.out, show 3 - (j + 1) = 2 - j by omega, Nat.add_sub_cancel], trivial⟩
          case measure => simp only [intOf]; omega
    · have hj4 : j = 3 := by omega
      subst hj4
      have HW := Lib.hid (show stepV (s.data.toList.drop k) = 3 by rw [HV.out, hok]; rfl)
      clear hok
      go_wp2_with fail
      go_ret
      exact ⟨ret_int (by rw [HW.out]; rfl), rfl⟩
set_option maxRecDepth 100000 in
set_option maxHeartbeats 1600000 in
theorem rstep_E (s : ByteArray) (k : Nat) (c : UInt8) (w : World) (hs : s.size ≤ 1000000) (h : k < s.size) (hc : s[k] = c) (c1 : 237 ≤ c.toNat) (c2 : c.toNat ≤ 237) :
  Calls Tryz.prog 58 #[.string s, .int .i64 (k : Int)] w fun e w' => e = .returned (.int .i64 (stepV (s.data.toList.drop k))) ∧ w' = w := by
 have hlt : (k : Int) < (s.size : Int) := by omega
 have hv := stepV_hd h hc
 rw [if_neg (by omega), show hdC c.toNat = (2, 128, 159) by unfold hdC; repeat' (first | rfl | omega | split)] at hv
 have f0 : ¬ (c.toNat : Int) < 128 := by omega
 have f1 : (c.toNat : Int) ≤ 255 := by omega
 have g0 : (194 : Int) ≤ (c.toNat : Int) := by omega
 have g1 : (224 : Int) ≤ (c.toNat : Int) := by omega
 have g2 : ¬ (240 : Int) ≤ (c.toNat : Int) := by omega
 have e0 : ¬ (c.toNat : Int) ≤ 223 := by omega
 have e1 : (c.toNat : Int) ≤ 239 := by omega
 have e2 : (c.toNat : Int) ≤ 244 := by omega
 have q0 : ((c.toNat : Int) == 224) = false := beq_eq_false_iff_ne.2 (by omega)
 have q1 : ((c.toNat : Int) == 237) = true := beq_iff_eq.2 (by omega)
 have q2 : ((c.toNat : Int) == 240) = false := beq_eq_false_iff_ne.2 (by omega)
 have q3 : ((c.toNat : Int) == 244) = false := beq_eq_false_iff_ne.2 (by omega)
 obtain ⟨R, hR⟩ : ∃ R, s.data.toList.drop (k + 1) = R := ⟨_, rfl⟩
 have hRl : R.length + (k + 1) = s.size := by rw [← hR, List.length_drop]; show s.size - (k + 1) + (k + 1) = s.size; omega
 have hget : ∀ j, (hj : k + 1 + j < s.size) → R[j]? = some (s[k + 1 + j]'hj) := fun j hj => by rw [← hR, List.getElem?_drop]; exact at_get hj
 rw [hR] at hv
 by_cases hsh : s.size ≤ k + 2
 · have hsh2 : (s.size : Int) ≤ (k : Int) + 2 := by omega
   have HV := Lib.hid (show stepV (s.data.toList.drop k) = 0 by rw [hv, okC_short (by show R.length < 2; omega)]; rfl)
   clear hv c1 c2 hR hget
   go_enter Tryz.func58, Tryz.ntmps58
   go_wp2_with fail
   go_ret
   exact ⟨ret_int (by rw [HV.out]; rfl), rfl⟩
 · have hsh2 : ¬ (s.size : Int) ≤ (k : Int) + 2 := by omega
   have HV := Lib.hid (show stepV (s.data.toList.drop k) = if okC 128 159 2 R = true then 3 else 0 by rw [hv]; simp)
   have HG := Lib.hid hget
   clear hv c1 c2 hR hget
   go_enter Tryz.func58, Tryz.ntmps58
   go_wp2_with fail
   go_loopw [5, 6, 9] (fun a b iv wr => ∃ j lo hi : Nat, a = .int .i64 lo ∧ b = .int .i64 hi ∧ iv = .int .i64 j ∧ 1 ≤ j ∧ j ≤ 3 ∧ okC 128 159 2 R = okC lo hi (3 - j) (R.drop (j - 1)) ∧ wr = w) (fun _ _ iv _ => 4 - (intOf iv).toNat)
   case atStart => exact ⟨1, 128, 159, rfl, rfl, rfl, Nat.le_refl _, by omega, rfl, rfl⟩
   case round =>
    obtain ⟨j, lo, hi, rfl, rfl, rfl, hj1, hj2, hok, rfl⟩ := hrel
    by_cases hjn : j ≤ 2
    · have hjn2 : (j : Int) ≤ 2 := by omega
      obtain ⟨p, hp⟩ : ∃ p, k + j = p := ⟨_, rfl⟩
      have hjp : k + 1 + (j - 1) = p := by omega
      have hps : p < s.size := by omega
      obtain ⟨x, hx⟩ : ∃ x, s[p]'hps = x := ⟨_, rfl⟩
      have bx0 : (0 : Int) ≤ (x.toNat : Int) := by omega
      have bx1 : (x.toNat : Int) ≤ 255 := by have := byte_lt x; omega
      have hg := HG.out (j - 1) (by omega)
      have hg2 : R[j - 1]? = some x := by rw [hg]; simp only [hjp]; rw [hx]
      have hd := drop_at hg2
      have hkj : (k : Int) + (j : Int) = (p : Int) := by omega
      have hps2 : (p : Int) < (s.size : Int) := by omega
      rw [show 3 - j = (2 - j) + 1 by omega, hd, show j - 1 + 1 = j by omega] at hok
      simp only [okC] at hok
      by_cases x1 : x.toNat < lo
      · have y1 : (x.toNat : Int) < (lo : Int) := by omega
        have HW := Lib.hid (show stepV (s.data.toList.drop k) = 0 by
         rw [HV.out, hok, decide_eq_false (by omega)]; rfl)
        clear hok hg hg2 hd hjp hp x1
        go_wp2_with fail
        go_ret
        exact ⟨ret_int (by rw [HW.out]; rfl), rfl⟩
      · have y1 : ¬ (x.toNat : Int) < (lo : Int) := by omega
        by_cases x2 : hi < x.toNat
        · have y2 : (hi : Int) < (x.toNat : Int) := by omega
          have HW := Lib.hid (show stepV (s.data.toList.drop k) = 0 by
           rw [HV.out, hok, decide_eq_false (p := x.toNat ≤ hi) (by omega)]; simp)
          clear hok hg hg2 hd hjp hp x1 x2
          go_wp2_with fail
          go_ret
          exact ⟨ret_int (by rw [HW.out]; rfl), rfl⟩
        · have y2 : ¬ (hi : Int) < (x.toNat : Int) := by omega
          rw [decide_eq_true (p := lo ≤ x.toNat) (by omega), decide_eq_true (p := x.toNat ≤ hi) (by omega), Bool.true_and, Bool.true_and] at hok
          have HOK := Lib.hid hok
          clear hok hg hg2 hd hjp hp x1 x2
          go_wp2_with fail
          go_roundw
          case rel => exact ⟨j + 1, 128, 191, rfl, rfl, by go_num, by omega, by omega, by rw [HOK.out, show 3 - (j + 1) = 2 - j by omega, Nat.add_sub_cancel], trivial⟩
          case measure => simp only [intOf]; omega
    · have hj4 : j = 3 := by omega
      subst hj4
      have HW := Lib.hid (show stepV (s.data.toList.drop k) = 3 by rw [HV.out, hok]; rfl)
      clear hok
      go_wp2_with fail
      go_ret
      exact ⟨ret_int (by rw [HW.out]; rfl), rfl⟩
set_option maxRecDepth 100000 in
set_option maxHeartbeats 1600000 in
theorem rstep_F2 (s : ByteArray) (k : Nat) (c : UInt8) (w : World) (hs : s.size ≤ 1000000) (h : k < s.size) (hc : s[k] = c) (c1 : 238 ≤ c.toNat) (c2 : c.toNat ≤ 239) :
  Calls Tryz.prog 58 #[.string s, .int .i64 (k : Int)] w fun e w' => e = .returned (.int .i64 (stepV (s.data.toList.drop k))) ∧ w' = w := by
 have hlt : (k : Int) < (s.size : Int) := by omega
 have hv := stepV_hd h hc
 rw [if_neg (by omega), show hdC c.toNat = (2, 128, 191) by unfold hdC; repeat' (first | rfl | omega | split)] at hv
 have f0 : ¬ (c.toNat : Int) < 128 := by omega
 have f1 : (c.toNat : Int) ≤ 255 := by omega
 have g0 : (194 : Int) ≤ (c.toNat : Int) := by omega
 have g1 : (224 : Int) ≤ (c.toNat : Int) := by omega
 have g2 : ¬ (240 : Int) ≤ (c.toNat : Int) := by omega
 have e0 : ¬ (c.toNat : Int) ≤ 223 := by omega
 have e1 : (c.toNat : Int) ≤ 239 := by omega
 have e2 : (c.toNat : Int) ≤ 244 := by omega
 have q0 : ((c.toNat : Int) == 224) = false := beq_eq_false_iff_ne.2 (by omega)
 have q1 : ((c.toNat : Int) == 237) = false := beq_eq_false_iff_ne.2 (by omega)
 have q2 : ((c.toNat : Int) == 240) = false := beq_eq_false_iff_ne.2 (by omega)
 have q3 : ((c.toNat : Int) == 244) = false := beq_eq_false_iff_ne.2 (by omega)
 obtain ⟨R, hR⟩ : ∃ R, s.data.toList.drop (k + 1) = R := ⟨_, rfl⟩
 have hRl : R.length + (k + 1) = s.size := by rw [← hR, List.length_drop]; show s.size - (k + 1) + (k + 1) = s.size; omega
 have hget : ∀ j, (hj : k + 1 + j < s.size) → R[j]? = some (s[k + 1 + j]'hj) := fun j hj => by rw [← hR, List.getElem?_drop]; exact at_get hj
 rw [hR] at hv
 by_cases hsh : s.size ≤ k + 2
 · have hsh2 : (s.size : Int) ≤ (k : Int) + 2 := by omega
   have HV := Lib.hid (show stepV (s.data.toList.drop k) = 0 by rw [hv, okC_short (by show R.length < 2; omega)]; rfl)
   clear hv c1 c2 hR hget
   go_enter Tryz.func58, Tryz.ntmps58
   go_wp2_with fail
   go_ret
   exact ⟨ret_int (by rw [HV.out]; rfl), rfl⟩
 · have hsh2 : ¬ (s.size : Int) ≤ (k : Int) + 2 := by omega
   have HV := Lib.hid (show stepV (s.data.toList.drop k) = if okC 128 191 2 R = true then 3 else 0 by rw [hv]; simp)
   have HG := Lib.hid hget
   clear hv c1 c2 hR hget
   go_enter Tryz.func58, Tryz.ntmps58
   go_wp2_with fail
   go_loopw [5, 6, 9] (fun a b iv wr => ∃ j lo hi : Nat, a = .int .i64 lo ∧ b = .int .i64 hi ∧ iv = .int .i64 j ∧ 1 ≤ j ∧ j ≤ 3 ∧ okC 128 191 2 R = okC lo hi (3 - j) (R.drop (j - 1)) ∧ wr = w) (fun _ _ iv _ => 4 - (intOf iv).toNat)
   case atStart => exact ⟨1, 128, 191, rfl, rfl, rfl, Nat.le_refl _, by omega, rfl, rfl⟩
   case round =>
    obtain ⟨j, lo, hi, rfl, rfl, rfl, hj1, hj2, hok, rfl⟩ := hrel
    by_cases hjn : j ≤ 2
    · have hjn2 : (j : Int) ≤ 2 := by omega
      obtain ⟨p, hp⟩ : ∃ p, k + j = p := ⟨_, rfl⟩
      have hjp : k + 1 + (j - 1) = p := by omega
      have hps : p < s.size := by omega
      obtain ⟨x, hx⟩ : ∃ x, s[p]'hps = x := ⟨_, rfl⟩
      have bx0 : (0 : Int) ≤ (x.toNat : Int) := by omega
      have bx1 : (x.toNat : Int) ≤ 255 := by have := byte_lt x; omega
      have hg := HG.out (j - 1) (by omega)
      have hg2 : R[j - 1]? = some x := by rw [hg]; simp only [hjp]; rw [hx]
      have hd := drop_at hg2
      have hkj : (k : Int) + (j : Int) = (p : Int) := by omega
      have hps2 : (p : Int) < (s.size : Int) := by omega
      rw [show 3 - j = (2 - j) + 1 by omega, hd, show j - 1 + 1 = j by omega] at hok
      simp only [okC] at hok
      by_cases x1 : x.toNat < lo
      · have y1 : (x.toNat : Int) < (lo : Int) := by omega
        have HW := Lib.hid (show stepV (s.data.toList.drop k) = 0 by
         rw [HV.out, hok, decide_eq_false (by omega)]; rfl)
        clear hok hg hg2 hd hjp hp x1
        go_wp2_with fail
        go_ret
        exact ⟨ret_int (by rw [HW.out]; rfl), rfl⟩
      · have y1 : ¬ (x.toNat : Int) < (lo : Int) := by omega
        by_cases x2 : hi < x.toNat
        · have y2 : (hi : Int) < (x.toNat : Int) := by omega
          have HW := Lib.hid (show stepV (s.data.toList.drop k) = 0 by
           rw [HV.out, hok, decide_eq_false (p := x.toNat ≤ hi) (by omega)]; simp)
          clear hok hg hg2 hd hjp hp x1 x2
          go_wp2_with fail
          go_ret
          exact ⟨ret_int (by rw [HW.out]; rfl), rfl⟩
        · have y2 : ¬ (hi : Int) < (x.toNat : Int) := by omega
          rw [decide_eq_true (p := lo ≤ x.toNat) (by omega), decide_eq_true (p := x.toNat ≤ hi) (by omega), Bool.true_and, Bool.true_and] at hok
          have HOK := Lib.hid hok
          clear hok hg hg2 hd hjp hp x1 x2
          go_wp2_with fail
          go_roundw
          case rel => exact ⟨j + 1, 128, 191, rfl, rfl, by go_num, by omega, by omega, by rw [HOK.out, show 3 - (j + 1) = 2 - j by omega, Nat.add_sub_cancel], trivial⟩
          case measure => simp only [intOf]; omega
    · have hj4 : j = 3 := by omega
      subst hj4
      have HW := Lib.hid (show stepV (s.data.toList.drop k) = 3 by rw [HV.out, hok]; rfl)
      clear hok
      go_wp2_with fail
      go_ret
      exact ⟨ret_int (by rw [HW.out]; rfl), rfl⟩
set_option maxRecDepth 100000 in
set_option maxHeartbeats 1600000 in
theorem rstep_G (s : ByteArray) (k : Nat) (c : UInt8) (w : World) (hs : s.size ≤ 1000000) (h : k < s.size) (hc : s[k] = c) (c1 : 240 ≤ c.toNat) (c2 : c.toNat ≤ 240) :
  Calls Tryz.prog 58 #[.string s, .int .i64 (k : Int)] w fun e w' => e = .returned (.int .i64 (stepV (s.data.toList.drop k))) ∧ w' = w := by
 have hlt : (k : Int) < (s.size : Int) := by omega
 have hv := stepV_hd h hc
 rw [if_neg (by omega), show hdC c.toNat = (3, 144, 191) by unfold hdC; repeat' (first | rfl | omega | split)] at hv
 have f0 : ¬ (c.toNat : Int) < 128 := by omega
 have f1 : (c.toNat : Int) ≤ 255 := by omega
 have g0 : (194 : Int) ≤ (c.toNat : Int) := by omega
 have g1 : (224 : Int) ≤ (c.toNat : Int) := by omega
 have g2 : (240 : Int) ≤ (c.toNat : Int) := by omega
 have e0 : ¬ (c.toNat : Int) ≤ 223 := by omega
 have e1 : ¬ (c.toNat : Int) ≤ 239 := by omega
 have e2 : (c.toNat : Int) ≤ 244 := by omega
 have q0 : ((c.toNat : Int) == 224) = false := beq_eq_false_iff_ne.2 (by omega)
 have q1 : ((c.toNat : Int) == 237) = false := beq_eq_false_iff_ne.2 (by omega)
 have q2 : ((c.toNat : Int) == 240) = true := beq_iff_eq.2 (by omega)
 have q3 : ((c.toNat : Int) == 244) = false := beq_eq_false_iff_ne.2 (by omega)
 obtain ⟨R, hR⟩ : ∃ R, s.data.toList.drop (k + 1) = R := ⟨_, rfl⟩
 have hRl : R.length + (k + 1) = s.size := by rw [← hR, List.length_drop]; show s.size - (k + 1) + (k + 1) = s.size; omega
 have hget : ∀ j, (hj : k + 1 + j < s.size) → R[j]? = some (s[k + 1 + j]'hj) := fun j hj => by rw [← hR, List.getElem?_drop]; exact at_get hj
 rw [hR] at hv
 by_cases hsh : s.size ≤ k + 3
 · have hsh2 : (s.size : Int) ≤ (k : Int) + 3 := by omega
   have HV := Lib.hid (show stepV (s.data.toList.drop k) = 0 by rw [hv, okC_short (by show R.length < 3; omega)]; rfl)
   clear hv c1 c2 hR hget
   go_enter Tryz.func58, Tryz.ntmps58
   go_wp2_with fail
   go_ret
   exact ⟨ret_int (by rw [HV.out]; rfl), rfl⟩
 · have hsh2 : ¬ (s.size : Int) ≤ (k : Int) + 3 := by omega
   have HV := Lib.hid (show stepV (s.data.toList.drop k) = if okC 144 191 3 R = true then 4 else 0 by rw [hv]; simp)
   have HG := Lib.hid hget
   clear hv c1 c2 hR hget
   go_enter Tryz.func58, Tryz.ntmps58
   go_wp2_with fail
   go_loopw [5, 6, 9] (fun a b iv wr => ∃ j lo hi : Nat, a = .int .i64 lo ∧ b = .int .i64 hi ∧ iv = .int .i64 j ∧ 1 ≤ j ∧ j ≤ 4 ∧ okC 144 191 3 R = okC lo hi (4 - j) (R.drop (j - 1)) ∧ wr = w) (fun _ _ iv _ => 5 - (intOf iv).toNat)
   case atStart => exact ⟨1, 144, 191, rfl, rfl, rfl, Nat.le_refl _, by omega, rfl, rfl⟩
   case round =>
    obtain ⟨j, lo, hi, rfl, rfl, rfl, hj1, hj2, hok, rfl⟩ := hrel
    by_cases hjn : j ≤ 3
    · have hjn2 : (j : Int) ≤ 3 := by omega
      obtain ⟨p, hp⟩ : ∃ p, k + j = p := ⟨_, rfl⟩
      have hjp : k + 1 + (j - 1) = p := by omega
      have hps : p < s.size := by omega
      obtain ⟨x, hx⟩ : ∃ x, s[p]'hps = x := ⟨_, rfl⟩
      have bx0 : (0 : Int) ≤ (x.toNat : Int) := by omega
      have bx1 : (x.toNat : Int) ≤ 255 := by have := byte_lt x; omega
      have hg := HG.out (j - 1) (by omega)
      have hg2 : R[j - 1]? = some x := by rw [hg]; simp only [hjp]; rw [hx]
      have hd := drop_at hg2
      have hkj : (k : Int) + (j : Int) = (p : Int) := by omega
      have hps2 : (p : Int) < (s.size : Int) := by omega
      rw [show 4 - j = (3 - j) + 1 by omega, hd, show j - 1 + 1 = j by omega] at hok
      simp only [okC] at hok
      by_cases x1 : x.toNat < lo
      · have y1 : (x.toNat : Int) < (lo : Int) := by omega
        have HW := Lib.hid (show stepV (s.data.toList.drop k) = 0 by
         rw [HV.out, hok, decide_eq_false (by omega)]; rfl)
        clear hok hg hg2 hd hjp hp x1
        go_wp2_with fail
        go_ret
        exact ⟨ret_int (by rw [HW.out]; rfl), rfl⟩
      · have y1 : ¬ (x.toNat : Int) < (lo : Int) := by omega
        by_cases x2 : hi < x.toNat
        · have y2 : (hi : Int) < (x.toNat : Int) := by omega
          have HW := Lib.hid (show stepV (s.data.toList.drop k) = 0 by
           rw [HV.out, hok, decide_eq_false (p := x.toNat ≤ hi) (by omega)]; simp)
          clear hok hg hg2 hd hjp hp x1 x2
          go_wp2_with fail
          go_ret
          exact ⟨ret_int (by rw [HW.out]; rfl), rfl⟩
        · have y2 : ¬ (hi : Int) < (x.toNat : Int) := by omega
          rw [decide_eq_true (p := lo ≤ x.toNat) (by omega), decide_eq_true (p := x.toNat ≤ hi) (by omega), Bool.true_and, Bool.true_and] at hok
          have HOK := Lib.hid hok
          clear hok hg hg2 hd hjp hp x1 x2
          go_wp2_with fail
          go_roundw
          case rel => exact ⟨j + 1, 128, 191, rfl, rfl, by go_num, by omega, by omega, by rw [HOK.out, show 4 - (j + 1) = 3 - j by omega, Nat.add_sub_cancel], trivial⟩
          case measure => simp only [intOf]; omega
    · have hj4 : j = 4 := by omega
      subst hj4
      have HW := Lib.hid (show stepV (s.data.toList.drop k) = 4 by rw [HV.out, hok]; rfl)
      clear hok
      go_wp2_with fail
      go_ret
      exact ⟨ret_int (by rw [HW.out]; rfl), rfl⟩
set_option maxRecDepth 100000 in
set_option maxHeartbeats 1600000 in
theorem rstep_H (s : ByteArray) (k : Nat) (c : UInt8) (w : World) (hs : s.size ≤ 1000000) (h : k < s.size) (hc : s[k] = c) (c1 : 241 ≤ c.toNat) (c2 : c.toNat ≤ 243) :
  Calls Tryz.prog 58 #[.string s, .int .i64 (k : Int)] w fun e w' => e = .returned (.int .i64 (stepV (s.data.toList.drop k))) ∧ w' = w := by
 have hlt : (k : Int) < (s.size : Int) := by omega
 have hv := stepV_hd h hc
 rw [if_neg (by omega), show hdC c.toNat = (3, 128, 191) by unfold hdC; repeat' (first | rfl | omega | split)] at hv
 have f0 : ¬ (c.toNat : Int) < 128 := by omega
 have f1 : (c.toNat : Int) ≤ 255 := by omega
 have g0 : (194 : Int) ≤ (c.toNat : Int) := by omega
 have g1 : (224 : Int) ≤ (c.toNat : Int) := by omega
 have g2 : (240 : Int) ≤ (c.toNat : Int) := by omega
 have e0 : ¬ (c.toNat : Int) ≤ 223 := by omega
 have e1 : ¬ (c.toNat : Int) ≤ 239 := by omega
 have e2 : (c.toNat : Int) ≤ 244 := by omega
 have q0 : ((c.toNat : Int) == 224) = false := beq_eq_false_iff_ne.2 (by omega)
 have q1 : ((c.toNat : Int) == 237) = false := beq_eq_false_iff_ne.2 (by omega)
 have q2 : ((c.toNat : Int) == 240) = false := beq_eq_false_iff_ne.2 (by omega)
 have q3 : ((c.toNat : Int) == 244) = false := beq_eq_false_iff_ne.2 (by omega)
 obtain ⟨R, hR⟩ : ∃ R, s.data.toList.drop (k + 1) = R := ⟨_, rfl⟩
 have hRl : R.length + (k + 1) = s.size := by rw [← hR, List.length_drop]; show s.size - (k + 1) + (k + 1) = s.size; omega
 have hget : ∀ j, (hj : k + 1 + j < s.size) → R[j]? = some (s[k + 1 + j]'hj) := fun j hj => by rw [← hR, List.getElem?_drop]; exact at_get hj
 rw [hR] at hv
 by_cases hsh : s.size ≤ k + 3
 · have hsh2 : (s.size : Int) ≤ (k : Int) + 3 := by omega
   have HV := Lib.hid (show stepV (s.data.toList.drop k) = 0 by rw [hv, okC_short (by show R.length < 3; omega)]; rfl)
   clear hv c1 c2 hR hget
   go_enter Tryz.func58, Tryz.ntmps58
   go_wp2_with fail
   go_ret
   exact ⟨ret_int (by rw [HV.out]; rfl), rfl⟩
 · have hsh2 : ¬ (s.size : Int) ≤ (k : Int) + 3 := by omega
   have HV := Lib.hid (show stepV (s.data.toList.drop k) = if okC 128 191 3 R = true then 4 else 0 by rw [hv]; simp)
   have HG := Lib.hid hget
   clear hv c1 c2 hR hget
   go_enter Tryz.func58, Tryz.ntmps58
   go_wp2_with fail
   go_loopw [5, 6, 9] (fun a b iv wr => ∃ j lo hi : Nat, a = .int .i64 lo ∧ b = .int .i64 hi ∧ iv = .int .i64 j ∧ 1 ≤ j ∧ j ≤ 4 ∧ okC 128 191 3 R = okC lo hi (4 - j) (R.drop (j - 1)) ∧ wr = w) (fun _ _ iv _ => 5 - (intOf iv).toNat)
   case atStart => exact ⟨1, 128, 191, rfl, rfl, rfl, Nat.le_refl _, by omega, rfl, rfl⟩
   case round =>
    obtain ⟨j, lo, hi, rfl, rfl, rfl, hj1, hj2, hok, rfl⟩ := hrel
    by_cases hjn : j ≤ 3
    · have hjn2 : (j : Int) ≤ 3 := by omega
      obtain ⟨p, hp⟩ : ∃ p, k + j = p := ⟨_, rfl⟩
      have hjp : k + 1 + (j - 1) = p := by omega
      have hps : p < s.size := by omega
      obtain ⟨x, hx⟩ : ∃ x, s[p]'hps = x := ⟨_, rfl⟩
      have bx0 : (0 : Int) ≤ (x.toNat : Int) := by omega
      have bx1 : (x.toNat : Int) ≤ 255 := by have := byte_lt x; omega
      have hg := HG.out (j - 1) (by omega)
      have hg2 : R[j - 1]? = some x := by rw [hg]; simp only [hjp]; rw [hx]
      have hd := drop_at hg2
      have hkj : (k : Int) + (j : Int) = (p : Int) := by omega
      have hps2 : (p : Int) < (s.size : Int) := by omega
      rw [show 4 - j = (3 - j) + 1 by omega, hd, show j - 1 + 1 = j by omega] at hok
      simp only [okC] at hok
      by_cases x1 : x.toNat < lo
      · have y1 : (x.toNat : Int) < (lo : Int) := by omega
        have HW := Lib.hid (show stepV (s.data.toList.drop k) = 0 by
         rw [HV.out, hok, decide_eq_false (by omega)]; rfl)
        clear hok hg hg2 hd hjp hp x1
        go_wp2_with fail
        go_ret
        exact ⟨ret_int (by rw [HW.out]; rfl), rfl⟩
      · have y1 : ¬ (x.toNat : Int) < (lo : Int) := by omega
        by_cases x2 : hi < x.toNat
        · have y2 : (hi : Int) < (x.toNat : Int) := by omega
          have HW := Lib.hid (show stepV (s.data.toList.drop k) = 0 by
           rw [HV.out, hok, decide_eq_false (p := x.toNat ≤ hi) (by omega)]; simp)
          clear hok hg hg2 hd hjp hp x1 x2
          go_wp2_with fail
          go_ret
          exact ⟨ret_int (by rw [HW.out]; rfl), rfl⟩
        · have y2 : ¬ (hi : Int) < (x.toNat : Int) := by omega
          rw [decide_eq_true (p := lo ≤ x.toNat) (by omega), decide_eq_true (p := x.toNat ≤ hi) (by omega), Bool.true_and, Bool.true_and] at hok
          have HOK := Lib.hid hok
          clear hok hg hg2 hd hjp hp x1 x2
          go_wp2_with fail
          go_roundw
          case rel => exact ⟨j + 1, 128, 191, rfl, rfl, by go_num, by omega, by omega, by rw [HOK.out, show 4 - (j + 1) = 3 - j by omega, Nat.add_sub_cancel], trivial⟩
          case measure => simp only [intOf]; omega
    · have hj4 : j = 4 := by omega
      subst hj4
      have HW := Lib.hid (show stepV (s.data.toList.drop k) = 4 by rw [HV.out, hok]; rfl)
      clear hok
      go_wp2_with fail
      go_ret
      exact ⟨ret_int (by rw [HW.out]; rfl), rfl⟩
set_option maxRecDepth 100000 in
set_option maxHeartbeats 1600000 in
theorem rstep_I (s : ByteArray) (k : Nat) (c : UInt8) (w : World) (hs : s.size ≤ 1000000) (h : k < s.size) (hc : s[k] = c) (c1 : 244 ≤ c.toNat) (c2 : c.toNat ≤ 244) :
  Calls Tryz.prog 58 #[.string s, .int .i64 (k : Int)] w fun e w' => e = .returned (.int .i64 (stepV (s.data.toList.drop k))) ∧ w' = w := by
 have hlt : (k : Int) < (s.size : Int) := by omega
 have hv := stepV_hd h hc
 rw [if_neg (by omega), show hdC c.toNat = (3, 128, 143) by unfold hdC; repeat' (first | rfl | omega | split)] at hv
 have f0 : ¬ (c.toNat : Int) < 128 := by omega
 have f1 : (c.toNat : Int) ≤ 255 := by omega
 have g0 : (194 : Int) ≤ (c.toNat : Int) := by omega
 have g1 : (224 : Int) ≤ (c.toNat : Int) := by omega
 have g2 : (240 : Int) ≤ (c.toNat : Int) := by omega
 have e0 : ¬ (c.toNat : Int) ≤ 223 := by omega
 have e1 : ¬ (c.toNat : Int) ≤ 239 := by omega
 have e2 : (c.toNat : Int) ≤ 244 := by omega
 have q0 : ((c.toNat : Int) == 224) = false := beq_eq_false_iff_ne.2 (by omega)
 have q1 : ((c.toNat : Int) == 237) = false := beq_eq_false_iff_ne.2 (by omega)
 have q2 : ((c.toNat : Int) == 240) = false := beq_eq_false_iff_ne.2 (by omega)
 have q3 : ((c.toNat : Int) == 244) = true := beq_iff_eq.2 (by omega)
 obtain ⟨R, hR⟩ : ∃ R, s.data.toList.drop (k + 1) = R := ⟨_, rfl⟩
 have hRl : R.length + (k + 1) = s.size := by rw [← hR, List.length_drop]; show s.size - (k + 1) + (k + 1) = s.size; omega
 have hget : ∀ j, (hj : k + 1 + j < s.size) → R[j]? = some (s[k + 1 + j]'hj) := fun j hj => by rw [← hR, List.getElem?_drop]; exact at_get hj
 rw [hR] at hv
 by_cases hsh : s.size ≤ k + 3
 · have hsh2 : (s.size : Int) ≤ (k : Int) + 3 := by omega
   have HV := Lib.hid (show stepV (s.data.toList.drop k) = 0 by rw [hv, okC_short (by show R.length < 3; omega)]; rfl)
   clear hv c1 c2 hR hget
   go_enter Tryz.func58, Tryz.ntmps58
   go_wp2_with fail
   go_ret
   exact ⟨ret_int (by rw [HV.out]; rfl), rfl⟩
 · have hsh2 : ¬ (s.size : Int) ≤ (k : Int) + 3 := by omega
   have HV := Lib.hid (show stepV (s.data.toList.drop k) = if okC 128 143 3 R = true then 4 else 0 by rw [hv]; simp)
   have HG := Lib.hid hget
   clear hv c1 c2 hR hget
   go_enter Tryz.func58, Tryz.ntmps58
   go_wp2_with fail
   go_loopw [5, 6, 9] (fun a b iv wr => ∃ j lo hi : Nat, a = .int .i64 lo ∧ b = .int .i64 hi ∧ iv = .int .i64 j ∧ 1 ≤ j ∧ j ≤ 4 ∧ okC 128 143 3 R = okC lo hi (4 - j) (R.drop (j - 1)) ∧ wr = w) (fun _ _ iv _ => 5 - (intOf iv).toNat)
   case atStart => exact ⟨1, 128, 143, rfl, rfl, rfl, Nat.le_refl _, by omega, rfl, rfl⟩
   case round =>
    obtain ⟨j, lo, hi, rfl, rfl, rfl, hj1, hj2, hok, rfl⟩ := hrel
    by_cases hjn : j ≤ 3
    · have hjn2 : (j : Int) ≤ 3 := by omega
      obtain ⟨p, hp⟩ : ∃ p, k + j = p := ⟨_, rfl⟩
      have hjp : k + 1 + (j - 1) = p := by omega
      have hps : p < s.size := by omega
      obtain ⟨x, hx⟩ : ∃ x, s[p]'hps = x := ⟨_, rfl⟩
      have bx0 : (0 : Int) ≤ (x.toNat : Int) := by omega
      have bx1 : (x.toNat : Int) ≤ 255 := by have := byte_lt x; omega
      have hg := HG.out (j - 1) (by omega)
      have hg2 : R[j - 1]? = some x := by rw [hg]; simp only [hjp]; rw [hx]
      have hd := drop_at hg2
      have hkj : (k : Int) + (j : Int) = (p : Int) := by omega
      have hps2 : (p : Int) < (s.size : Int) := by omega
      rw [show 4 - j = (3 - j) + 1 by omega, hd, show j - 1 + 1 = j by omega] at hok
      simp only [okC] at hok
      by_cases x1 : x.toNat < lo
      · have y1 : (x.toNat : Int) < (lo : Int) := by omega
        have HW := Lib.hid (show stepV (s.data.toList.drop k) = 0 by
         rw [HV.out, hok, decide_eq_false (by omega)]; rfl)
        clear hok hg hg2 hd hjp hp x1
        go_wp2_with fail
        go_ret
        exact ⟨ret_int (by rw [HW.out]; rfl), rfl⟩
      · have y1 : ¬ (x.toNat : Int) < (lo : Int) := by omega
        by_cases x2 : hi < x.toNat
        · have y2 : (hi : Int) < (x.toNat : Int) := by omega
          have HW := Lib.hid (show stepV (s.data.toList.drop k) = 0 by
           rw [HV.out, hok, decide_eq_false (p := x.toNat ≤ hi) (by omega)]; simp)
          clear hok hg hg2 hd hjp hp x1 x2
          go_wp2_with fail
          go_ret
          exact ⟨ret_int (by rw [HW.out]; rfl), rfl⟩
        · have y2 : ¬ (hi : Int) < (x.toNat : Int) := by omega
          rw [decide_eq_true (p := lo ≤ x.toNat) (by omega), decide_eq_true (p := x.toNat ≤ hi) (by omega), Bool.true_and, Bool.true_and] at hok
          have HOK := Lib.hid hok
          clear hok hg hg2 hd hjp hp x1 x2
          go_wp2_with fail
          go_roundw
          case rel => exact ⟨j + 1, 128, 191, rfl, rfl, by go_num, by omega, by omega, by rw [HOK.out, show 4 - (j + 1) = 3 - j by omega, Nat.add_sub_cancel], trivial⟩
          case measure => simp only [intOf]; omega
    · have hj4 : j = 4 := by omega
      subst hj4
      have HW := Lib.hid (show stepV (s.data.toList.drop k) = 4 by rw [HV.out, hok]; rfl)
      clear hok
      go_wp2_with fail
      go_ret
      exact ⟨ret_int (by rw [HW.out]; rfl), rfl⟩
set_option maxRecDepth 100000 in
set_option maxHeartbeats 1600000 in
theorem rstep_J (s : ByteArray) (k : Nat) (c : UInt8) (w : World) (hs : s.size ≤ 1000000) (h : k < s.size) (hc : s[k] = c) (c1 : 245 ≤ c.toNat) (c2 : c.toNat ≤ 255) :
  Calls Tryz.prog 58 #[.string s, .int .i64 (k : Int)] w fun e w' => e = .returned (.int .i64 (stepV (s.data.toList.drop k))) ∧ w' = w := by
 have hlt : (k : Int) < (s.size : Int) := by omega
 have hv := stepV_hd h hc
 rw [if_neg (by omega), show hdC c.toNat = (0, 128, 191) by unfold hdC; repeat' (first | rfl | omega | split)] at hv
 have f0 : ¬ (c.toNat : Int) < 128 := by omega
 have f1 : (c.toNat : Int) ≤ 255 := by omega
 have g0 : (194 : Int) ≤ (c.toNat : Int) := by omega
 have g1 : (224 : Int) ≤ (c.toNat : Int) := by omega
 have g2 : (240 : Int) ≤ (c.toNat : Int) := by omega
 have e0 : ¬ (c.toNat : Int) ≤ 223 := by omega
 have e1 : ¬ (c.toNat : Int) ≤ 239 := by omega
 have e2 : ¬ (c.toNat : Int) ≤ 244 := by omega
 have q0 : ((c.toNat : Int) == 224) = false := beq_eq_false_iff_ne.2 (by omega)
 have q1 : ((c.toNat : Int) == 237) = false := beq_eq_false_iff_ne.2 (by omega)
 have q2 : ((c.toNat : Int) == 240) = false := beq_eq_false_iff_ne.2 (by omega)
 have q3 : ((c.toNat : Int) == 244) = false := beq_eq_false_iff_ne.2 (by omega)
 have HV := Lib.hid (show stepV (s.data.toList.drop k) = 0 by rw [hv]; rfl)
 clear hv c1 c2
 go_enter Tryz.func58, Tryz.ntmps58
 go_wp2_with fail
 go_ret
 exact ⟨ret_int (by rw [HV.out]; rfl), rfl⟩
theorem rstep (s : ByteArray) (k : Nat) (w : World) (hs : s.size ≤ 1000000) (h : k < s.size) :
  Calls Tryz.prog 58 #[.string s, .int .i64 (k : Int)] w fun e w' => e = .returned (.int .i64 (stepV (s.data.toList.drop k))) ∧ w' = w := by
 obtain ⟨c, hc⟩ : ∃ c, s[k] = c := ⟨_, rfl⟩
 have hb := byte_lt c
 by_cases h1 : c.toNat < 128
 · have hlt : (k : Int) < (s.size : Int) := by omega
   have f0 : (c.toNat : Int) < 128 := by omega
   have HV := Lib.hid (show stepV (s.data.toList.drop k) = 1 by rw [stepV_hd h hc, if_pos h1])
   have q0 : True := trivial
   clear h1
   go_enter Tryz.func58, Tryz.ntmps58
   go_wp2_with fail
   go_ret
   exact ⟨ret_int (by rw [HV.out]; rfl), rfl⟩
 by_cases hB : c.toNat ≤ 193
 · exact rstep_B s k c w hs h hc (by omega) hB
 by_cases hC : c.toNat ≤ 223
 · exact rstep_C s k c w hs h hc (by omega) hC
 by_cases hD : c.toNat ≤ 224
 · exact rstep_D s k c w hs h hc (by omega) hD
 by_cases hF1 : c.toNat ≤ 236
 · exact rstep_F1 s k c w hs h hc (by omega) hF1
 by_cases hE : c.toNat ≤ 237
 · exact rstep_E s k c w hs h hc (by omega) hE
 by_cases hF2 : c.toNat ≤ 239
 · exact rstep_F2 s k c w hs h hc (by omega) hF2
 by_cases hG : c.toNat ≤ 240
 · exact rstep_G s k c w hs h hc (by omega) hG
 by_cases hH : c.toNat ≤ 243
 · exact rstep_H s k c w hs h hc (by omega) hH
 by_cases hI : c.toNat ≤ 244
 · exact rstep_I s k c w hs h hc (by omega) hI
 exact rstep_J s k c w hs h hc (by omega) (by omega)
theorem rbroken (s : ByteArray) (w : World) (hs : s.size ≤ 1000000) :
  Calls Tryz.prog 32 #[.string s] w fun e w' => e = .returned (brkOut (brkV s.data.toList 0)) ∧ w' = w := by
 have hsz : s.data.toList.length = s.size := rfl
 have HSZ := Lib.hid hsz
 clear hsz
 go_enter Tryz.func32, Tryz.ntmps32
 go_wp2_with fail
 go_loopw [3] (fun iv wr => ∃ k : Nat, k ≤ s.size ∧ iv = .int .i64 k ∧ brkV s.data.toList 0 = brkV s.data.toList k ∧ wr = w) (fun iv _ => s.size - (intOf iv).toNat)
 case atStart => exact ⟨0, Nat.zero_le _, rfl, rfl, rfl⟩
 case round =>
  obtain ⟨k, hk, rfl, hv, rfl⟩ := hrel
  by_cases hlt : k < s.size
  · have hlt2 : (k : Int) < (s.size : Int) := by omega
    have hS := rstep s k wr hs hlt
    have hle := stepV_le (s.data.toList.drop k)
    rw [List.length_drop, HSZ.out] at hle
    have HZ := Lib.hid (fun h2 => brkV_zero (L := s.data.toList) (k := k) (by rw [HSZ.out]; exact hlt) h2)
    have HST := Lib.hid (fun h2 => brkV_step (L := s.data.toList) (k := k) (by rw [HSZ.out]; exact hlt) h2)
    obtain ⟨n, hn⟩ : ∃ n, stepV (s.data.toList.drop k) = n := ⟨_, rfl⟩
    rw [hn] at hS hle
    simp only [hn] at HZ HST
    clear hn
    by_cases hn0 : n = 0
    · subst hn0
      have HS := Lib.hid (show Calls Tryz.prog 58 #[.string s, .int .i64 (k : Int)] wr fun e w' => e = .returned (.int .i64 0) ∧ w' = wr from hS)
      have HV := Lib.hid (hv.trans (HZ.out rfl))
      clear hS hv hle
      go_wp2_with (first | (go_at_call 58; refine HS.out.mono ?_; rintro e w' ⟨rfl, rfl⟩))
      go_ret
      exact ⟨by rw [HV.out]; rfl, rfl⟩
    · have HS := Lib.hid hS
      have b1 : ((n : Int) == 0) = false := beq_eq_false_iff_ne.2 (by omega)
      have HV := Lib.hid (hv.trans (HST.out hn0))
      clear hS hv
      go_wp2_with (first | (go_at_call 58; refine HS.out.mono ?_; rintro e w' ⟨rfl, rfl⟩))
      go_roundw
      case rel => exact ⟨k + n, by omega, by go_num, HV.out, trivial⟩
      case measure => simp only [intOf]; omega
  · have hlt2 : ¬ (k : Int) < (s.size : Int) := by omega
    have HV := Lib.hid (hv.trans (brkV_end (by rw [HSZ.out]; omega)))
    clear hv
    go_wp2_with fail
    go_ret
    exact ⟨by rw [HV.out]; rfl, rfl⟩
end
end Go.Proofs.YtclbmmiedihepaaGreatDoor
