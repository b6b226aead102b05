/- Merged texts: UtfPlain, CharsPlain, NamePlain. -/
/- Plain facts on characters as bytes (no program in sight). Bytes are numbers from 0 to 255. -/
namespace Go.Proofs.YtlifdmehejehjaaDoor.UtfPlain
def isR (r : Int) : Bool := decide (0 ≤ r ∧ r ≤ 1114111 ∧ ¬ (55296 ≤ r ∧ r ≤ 57343))
/-- The bytes of a character. -/
def encL (r : Int) : List Int :=
  if r < 128 then [r] else if r < 2048 then [192 + r / 64, 128 + r % 64] else if r < 65536 then [224 + r / 4096, 128 + r / 64 % 64, 128 + r % 64]
  else [240 + r / 262144, 128 + r / 4096 % 64, 128 + r / 64 % 64, 128 + r % 64]
def sizeR (r : Int) : Nat := if r < 128 then 1 else if r < 2048 then 2 else if r < 65536 then 3 else 4
theorem encL_length (r : Int) : (encL r).length = sizeR r := by unfold encL sizeR; split <;> (try split) <;> (try split) <;> rfl
theorem sizeR_b (r : Int) : 1 ≤ sizeR r ∧ sizeR r ≤ 4 := by unfold sizeR; split <;> (try split) <;> (try split) <;> omega
theorem encL_b (r : Int) (h : isR r = true) : ∀ x ∈ encL r, 0 ≤ x ∧ x ≤ 255 := by
  simp only [isR, decide_eq_true_eq] at h
  unfold encL
  split
  · intro x hx; simp at hx; omega
  · split
    · intro x hx; simp at hx; omega
    · split
      · intro x hx; simp at hx; omega
      · intro x hx; simp at hx; omega
/-- What a byte of 128 to 191 at a place says; below 0: none is there. -/
def rest (bs : List Int) (i : Nat) : Int := match bs[i]? with
  | some b => if 128 ≤ b ∧ b ≤ 191 then b - 128 else -1
  | none => -1
theorem rest_b (bs : List Int) (i : Nat) : -1 ≤ rest bs i ∧ rest bs i ≤ 63 := by unfold rest; split <;> (try split) <;> omega
/-- The number and the bytes of a candidate; 0 bytes: none. -/
def cand (c x y z : Int) : Int × Nat :=
  if c < 128 then (c, 1) else if 192 ≤ c ∧ c < 224 ∧ 0 ≤ x then ((c - 192) * 64 + x, 2)
  else if 224 ≤ c ∧ c < 240 ∧ 0 ≤ x ∧ 0 ≤ y then (((c - 224) * 64 + x) * 64 + y, 3)
  else if 240 ≤ c ∧ c < 248 ∧ 0 ≤ x ∧ 0 ≤ y ∧ 0 ≤ z then ((((c - 240) * 64 + x) * 64 + y) * 64 + z, 4) else (-1, 0)
def charOf (c x y z : Int) : Int × Nat :=
  if (cand c x y z).2 = 0 ∨ isR (cand c x y z).1 = false ∨ sizeR (cand c x y z).1 ≠ (cand c x y z).2 then (0, 0) else cand c x y z
/-- The character at a place, and how many bytes it has; 0: none is there. -/
def charAt (bs : List Int) (i : Nat) : Int × Nat := charOf (bs.getD i 0) (rest bs (i + 1)) (rest bs (i + 2)) (rest bs (i + 3))
theorem cand_b (c x y z : Int) (hc : 0 ≤ c ∧ c ≤ 255) (hx : -1 ≤ x ∧ x ≤ 63) (hy : -1 ≤ y ∧ y ≤ 63) (hz : -1 ≤ z ∧ z ≤ 63) : -1 ≤ (cand c x y z).1 ∧ (cand c x y z).1 ≤ 2097151 ∧ (cand c x y z).2 ≤ 4 := by
  unfold cand
  split
  · simp; omega
  · split
    · simp; omega
    · split
      · simp; omega
      · split <;> simp <;> omega
theorem charOf_isR (c x y z : Int) (h : (charOf c x y z).2 ≠ 0) : isR (charOf c x y z).1 = true ∧ sizeR (charOf c x y z).1 = (charOf c x y z).2 := by
  unfold charOf at h ⊢
  split at h
  · exact absurd rfl h
  · rename_i h2
    rw [if_neg h2]
    have h3 : ¬ isR (cand c x y z).1 = false := fun e => h2 (.inr (.inl e))
    have h4 : ¬ sizeR (cand c x y z).1 ≠ (cand c x y z).2 := fun e => h2 (.inr (.inr e))
    exact ⟨by simpa using h3, by omega⟩
theorem charAt_size (bs : List Int) (i : Nat) : (charAt bs i).2 ≤ 4 := by
  unfold charAt
  by_cases h : (charOf (bs.getD i 0) (rest bs (i + 1)) (rest bs (i + 2)) (rest bs (i + 3))).2 = 0
  · omega
  · rw [← (charOf_isR _ _ _ _ h).2]; exact (sizeR_b _).2
/-- A character ends within the bytes. -/
theorem charAt_in (bs : List Int) (i : Nat) (hi : i < bs.length) : i + (charAt bs i).2 ≤ bs.length := by
  have hx : ∀ k, 0 ≤ rest bs k → k < bs.length := fun k h => by
    rcases Nat.lt_or_ge k bs.length with hl | hg
    · exact hl
    · unfold rest at h; rw [List.getElem?_eq_none hg] at h; simp at h
  unfold charAt charOf
  split
  · simp; omega
  · unfold cand
    split
    · simp; omega
    · split
      · rename_i h1 h2; have := hx _ h2.2.2; simp; omega
      · split
        · rename_i h1 h2 h3; have := hx _ h3.2.2.2; simp; omega
        · split
          · rename_i h1 h2 h3 h4; have := hx _ h4.2.2.2.2; simp; omega
          · simp; omega
/-- All characters from a place on; the place of the first that is none. -/
def scan (bs : List Int) : Nat → Nat → List Int × Option Nat
  | 0, _ => ([], none)
  | f + 1, i => if i < bs.length then (if (charAt bs i).2 = 0 then ([], some i) else ((charAt bs i).1 :: (scan bs f (i + (charAt bs i).2)).1, (scan bs f (i + (charAt bs i).2)).2)) else ([], none)
def runes (bs : List Int) : List Int × Option Nat := scan bs bs.length 0
theorem scan_end (bs : List Int) (f i : Nat) (h : bs.length ≤ i) : scan bs f i = ([], none) := by
  cases f with
  | zero => rfl
  | succ f => unfold scan; rw [if_neg (by omega)]
theorem scan_bad (bs : List Int) (f i : Nat) (hf : 0 < f) (h : i < bs.length) (hc : (charAt bs i).2 = 0) : scan bs f i = ([], some i) := by
  cases f with
  | zero => omega
  | succ f => unfold scan; rw [if_pos h, if_pos hc]
theorem scan_fuel (bs : List Int) (f g i : Nat) (hf : bs.length - i ≤ f) (hg : bs.length - i ≤ g) : scan bs f i = scan bs g i := by
  induction f generalizing g i with
  | zero => rw [scan_end bs g i (by omega)]; rfl
  | succ f ih =>
    cases g with
    | zero => rw [scan_end bs (f + 1) i (by omega)]; rfl
    | succ g =>
      unfold scan
      by_cases h : i < bs.length
      · rw [if_pos h, if_pos h]
        by_cases hc : (charAt bs i).2 = 0
        · rw [if_pos hc, if_pos hc]
        · rw [if_neg hc, if_neg hc, ih g _ (by omega) (by omega)]
      · rw [if_neg h, if_neg h]
theorem scan_ok (bs : List Int) (i : Nat) (h : i < bs.length) (hc : (charAt bs i).2 ≠ 0) :
    scan bs (bs.length - i) i = ((charAt bs i).1 :: (scan bs (bs.length - (i + (charAt bs i).2)) (i + (charAt bs i).2)).1, (scan bs (bs.length - (i + (charAt bs i).2)) (i + (charAt bs i).2)).2) := by
  rw [scan_fuel bs (bs.length - i) (bs.length - i - 1 + 1) i (by omega) (by omega)]
  show scan bs (bs.length - i - 1 + 1) i = _
  rw [scan_fuel bs (bs.length - (i + (charAt bs i).2)) (bs.length - i - 1) (i + (charAt bs i).2) (by omega) (by omega)]
  conv => lhs; unfold scan
  rw [if_pos h, if_neg hc]
end Go.Proofs.YtlifdmehejehjaaDoor.UtfPlain
/- Plain facts on the classes of characters (no program in sight). -/
namespace Go.Proofs.YtlifdmehejehjaaDoor.CharsPlain

def isChar (r : Int) : Bool := decide (r = 9 ∨ r = 10 ∨ r = 13 ∨ (32 ≤ r ∧ r ≤ 55295) ∨ (57344 ≤ r ∧ r ≤ 65533) ∨ (65536 ≤ r ∧ r ≤ 1114111))
def isBlank (r : Int) : Bool := decide (r = 32 ∨ r = 9 ∨ r = 13 ∨ r = 10)
def isStart (r : Int) : Bool :=
  decide (r = 58 ∨ (65 ≤ r ∧ r ≤ 90) ∨ r = 95 ∨ (97 ≤ r ∧ r ≤ 122) ∨ (192 ≤ r ∧ r ≤ 214) ∨ (216 ≤ r ∧ r ≤ 246) ∨ (248 ≤ r ∧ r ≤ 767) ∨ (880 ≤ r ∧ r ≤ 893) ∨ (895 ≤ r ∧ r ≤ 8191) ∨ (8204 ≤ r ∧ r ≤ 8205) ∨
    (8304 ≤ r ∧ r ≤ 8591) ∨ (11264 ≤ r ∧ r ≤ 12271) ∨ (12289 ≤ r ∧ r ≤ 55295) ∨ (63744 ≤ r ∧ r ≤ 64975) ∨ (65008 ≤ r ∧ r ≤ 65533) ∨ (65536 ≤ r ∧ r ≤ 983039))
def isMore (r : Int) : Bool := decide ((45 ≤ r ∧ r ≤ 46) ∨ (48 ≤ r ∧ r ≤ 57) ∨ r = 183 ∨ (768 ≤ r ∧ r ≤ 879) ∨ (8255 ≤ r ∧ r ≤ 8256))
def isName (r : Int) : Bool := isStart r || isMore r
/-- The signs of a pubid. -/
def signs : List Int := [45, 39, 40, 41, 43, 44, 46, 47, 58, 61, 63, 59, 33, 42, 35, 64, 36, 95, 37]
def isSign (r : Int) : Bool := signs.contains r
def isLetter (r : Int) : Bool := decide ((97 ≤ r ∧ r ≤ 122) ∨ (65 ≤ r ∧ r ≤ 90) ∨ (48 ≤ r ∧ r ≤ 57))
def isPubid (r : Int) : Bool := isLetter r || decide (r = 32 ∨ r = 13 ∨ r = 10) || isSign r
def one (b : Bool) : Int := if b then 1 else 0
def classes (r : Int) : Int := one (isChar r) + 2 * one (isBlank r) + 4 * one (isStart r) + 8 * one (isName r) + 16 * one (isPubid r)
/-- What class k says of r. -/
def isK (k : Nat) (r : Int) : Bool := match k with
  | 0 => isChar r
  | 1 => isBlank r
  | 2 => isStart r
  | 3 => isName r
  | _ => isPubid r
def digit (r b : Int) : Int :=
  if b = 10 ∨ b = 16 then
    (if 48 ≤ r ∧ r ≤ 57 then r - 48 else if b = 16 ∧ 97 ≤ r ∧ r ≤ 102 then r - 87 else if b = 16 ∧ 65 ≤ r ∧ r ≤ 70 then r - 55 else -1)
  else -1

theorem one_b (b : Bool) : 0 ≤ one b ∧ one b ≤ 1 := by cases b <;> simp [one]
theorem isSign_iff (r : Int) : isSign r = true ↔ r = 33 ∨ r = 35 ∨ r = 36 ∨ r = 37 ∨ (39 ≤ r ∧ r ≤ 47) ∧ r ≠ 45 ∧ r ≠ 46 ∨ r = 45 ∨ r = 46 ∨ r = 58 ∨ r = 59 ∨ r = 61 ∨ r = 63 ∨ r = 64 ∨ r = 95 := by
  simp [isSign, signs]; omega
theorem sign_lt (r : Int) (h : isSign r = true) : 32 < r ∧ r < 128 := by rw [isSign_iff] at h; omega
theorem classes_b (r : Int) : 0 ≤ classes r ∧ classes r ≤ 31 := by
  have := one_b (isChar r); have := one_b (isBlank r); have := one_b (isStart r); have := one_b (isName r); have := one_b (isPubid r)
  unfold classes; omega
theorem one_mod (b : Bool) : (one b % 2 == 1) = b := by cases b <;> rfl
theorem one_eq (b : Bool) : (one b == 1) = b := by cases b <;> rfl
theorem bits5 (a b c d e : Bool) :
    ((one a + 2 * one b + 4 * one c + 8 * one d + 16 * one e) % 2 == 1) = a ∧ ((one a + 2 * one b + 4 * one c + 8 * one d + 16 * one e) / 2 % 2 == 1) = b ∧
    ((one a + 2 * one b + 4 * one c + 8 * one d + 16 * one e) / 2 / 2 % 2 == 1) = c ∧ ((one a + 2 * one b + 4 * one c + 8 * one d + 16 * one e) / 2 / 2 / 2 % 2 == 1) = d ∧
    ((one a + 2 * one b + 4 * one c + 8 * one d + 16 * one e) / 2 / 2 / 2 / 2 % 2 == 1) = e := by
  cases a <;> cases b <;> cases c <;> cases d <;> cases e <;> decide
/-- k times halved. -/
def halved (n : Int) : Nat → Int
  | 0 => n
  | k + 1 => halved n k / 2
theorem halved_b (n : Int) (h : 0 ≤ n ∧ n ≤ 31) (k : Nat) : 0 ≤ halved n k ∧ halved n k ≤ 31 := by
  induction k with
  | zero => exact h
  | succ k ih => show 0 ≤ halved n k / 2 ∧ halved n k / 2 ≤ 31; omega
theorem halved_isK (r : Int) (k : Nat) (hk : k < 5) : (halved (classes r) k % 2 == 1) = isK k r := by
  have h := bits5 (isChar r) (isBlank r) (isStart r) (isName r) (isPubid r)
  match k, hk with
  | 0, _ => exact h.1
  | 1, _ => exact h.2.1
  | 2, _ => exact h.2.2.1
  | 3, _ => exact h.2.2.2.1
  | 4, _ => exact h.2.2.2.2
theorem start_name (r : Int) (h : isStart r = true) : isName r = true := by simp [isName, h]
theorem start_char (r : Int) (h : isStart r = true) : isChar r = true := by simp only [isStart, isChar, decide_eq_true_eq] at *; omega
theorem name_char (r : Int) (h : isName r = true) : isChar r = true := by
  simp only [isName, Bool.or_eq_true] at h
  rcases h with h | h
  · exact start_char r h
  · simp only [isMore, isChar, decide_eq_true_eq] at *; omega
theorem blank_char (r : Int) (h : isBlank r = true) : isChar r = true := by simp only [isBlank, isChar, decide_eq_true_eq] at *; omega
theorem pubid_char (r : Int) (h : isPubid r = true) : isChar r = true := by
  simp only [isPubid, Bool.or_eq_true, isSign_iff, isLetter, isChar, decide_eq_true_eq] at *; omega
theorem digit_hi (r b : Int) : digit r b < b ∨ digit r b = -1 := by unfold digit; split <;> (try split) <;> (try split) <;> (try split) <;> omega
/-- The digits' two texts, as numbers. -/
def lowZ : List Int := [48, 49, 50, 51, 52, 53, 54, 55, 56, 57, 97, 98, 99, 100, 101, 102]
def upZ : List Int := [48, 49, 50, 51, 52, 53, 54, 55, 56, 57, 65, 66, 67, 68, 69, 70]
theorem lt16 (k : Nat) (h : k < 16) : k = 0 ∨ k = 1 ∨ k = 2 ∨ k = 3 ∨ k = 4 ∨ k = 5 ∨ k = 6 ∨ k = 7 ∨ k = 8 ∨ k = 9 ∨ k = 10 ∨ k = 11 ∨ k = 12 ∨ k = 13 ∨ k = 14 ∨ k = 15 := by omega
theorem dig_hit (r b : Int) (k : Nat) (hb : b = 10 ∨ b = 16) (hk : (k : Int) < b) (h : lowZ[k]? = some r ∨ upZ[k]? = some r) : digit r b = k := by
  rcases lt16 k (by omega) with h1 | h1 | h1 | h1 | h1 | h1 | h1 | h1 | h1 | h1 | h1 | h1 | h1 | h1 | h1 | h1 <;> subst h1 <;> simp [lowZ, upZ] at h <;> unfold digit <;> omega
theorem dig_none (r b : Int) (hb : b = 10 ∨ b = 16) (h : ∀ j : Nat, (j : Int) < b → lowZ[j]? ≠ some r ∧ upZ[j]? ≠ some r) : digit r b = -1 := by
  have a0 := h 0 (by omega); have a1 := h 1 (by omega); have a2 := h 2 (by omega); have a3 := h 3 (by omega); have a4 := h 4 (by omega)
  have a5 := h 5 (by omega); have a6 := h 6 (by omega); have a7 := h 7 (by omega); have a8 := h 8 (by omega); have a9 := h 9 (by omega)
  simp [lowZ, upZ] at a0 a1 a2 a3 a4 a5 a6 a7 a8 a9
  rcases hb with rfl | rfl
  · unfold digit; omega
  · have b0 := h 10 (by omega); have b1 := h 11 (by omega); have b2 := h 12 (by omega); have b3 := h 13 (by omega); have b4 := h 14 (by omega); have b5 := h 15 (by omega)
    simp [lowZ, upZ] at b0 b1 b2 b3 b4 b5
    unfold digit; omega
end Go.Proofs.YtlifdmehejehjaaDoor.CharsPlain
/- Plain facts on names (no program in sight): the place behind a name; the name at a place; parts. Bytes are numbers from 0 to 255. -/
namespace Go.Proofs.YtlifdmehejehjaaDoor.NamePlain
open Go.Proofs.YtlifdmehejehjaaDoor.UtfPlain Go.Proofs.YtlifdmehejehjaaDoor.CharsPlain
/-- May a character begin a name (first), or follow; plain: but for a colon? -/
def mayK (first plain : Bool) (r : Int) : Bool := (if first then isStart r else isName r) && !(plain && r == 58)
/-- The place behind a name from a place on, as far as some rounds go. -/
def endF (bs : List Int) (plain : Bool) : Nat → Bool → Nat → Nat
  | 0, _, i => i
  | f + 1, first, i => if i < bs.length then (if (charAt bs i).2 = 0 ∨ mayK first plain (charAt bs i).1 = false then i else endF bs plain f false (i + (charAt bs i).2)) else i
def endN (bs : List Int) (plain first : Bool) (i : Nat) : Nat := endF bs plain (bs.length - i) first i
theorem endF_end (bs : List Int) (plain first : Bool) (f i : Nat) (h : bs.length ≤ i) : endF bs plain f first i = i := by
  cases f with
  | zero => rfl
  | succ f => unfold endF; rw [if_neg (by omega)]
theorem endF_fuel (bs : List Int) (plain first : Bool) (f g i : Nat) (hf : bs.length - i ≤ f) (hg : bs.length - i ≤ g) : endF bs plain f first i = endF bs plain g first i := by
  induction f generalizing g i first with
  | zero => rw [endF_end bs plain first g i (by omega)]; rfl
  | succ f ih =>
    cases g with
    | zero => rw [endF_end bs plain first (f + 1) i (by omega)]; rfl
    | succ g =>
      unfold endF
      by_cases h : i < bs.length
      · rw [if_pos h, if_pos h]
        by_cases hc : (charAt bs i).2 = 0 ∨ mayK first plain (charAt bs i).1 = false
        · rw [if_pos hc, if_pos hc]
        · rw [if_neg hc, if_neg hc, ih false g _ (by omega) (by omega)]
      · rw [if_neg h, if_neg h]
theorem endN_at (bs : List Int) (plain first : Bool) (i : Nat) (h : bs.length ≤ i) : endN bs plain first i = i := endF_end bs plain first _ i h
theorem endN_no (bs : List Int) (plain first : Bool) (i : Nat) (h : (charAt bs i).2 = 0 ∨ mayK first plain (charAt bs i).1 = false) : endN bs plain first i = i := by
  unfold endN
  cases hf : bs.length - i with
  | zero => rfl
  | succ f => unfold endF; rw [if_pos (by omega), if_pos h]
theorem endN_yes (bs : List Int) (plain first : Bool) (i : Nat) (hi : i < bs.length) (h1 : (charAt bs i).2 ≠ 0) (h2 : mayK first plain (charAt bs i).1 = true) : endN bs plain first i = endN bs plain false (i + (charAt bs i).2) := by
  unfold endN
  rw [endF_fuel bs plain first (bs.length - i) (bs.length - i - 1 + 1) i (by omega) (by omega)]
  conv => lhs; unfold endF
  rw [if_pos hi, if_neg (by rw [h2]; simp [h1])]
  exact endF_fuel bs plain false _ _ _ (by omega) (by omega)
theorem endF_b (bs : List Int) (plain : Bool) (f : Nat) : ∀ (first : Bool) (i : Nat), i ≤ bs.length → i ≤ endF bs plain f first i ∧ endF bs plain f first i ≤ bs.length := by
  induction f with
  | zero => exact fun _ i h => ⟨Nat.le_refl _, h⟩
  | succ f ih =>
    intro first i h
    unfold endF
    by_cases hi : i < bs.length
    · rw [if_pos hi]
      by_cases hc : (charAt bs i).2 = 0 ∨ mayK first plain (charAt bs i).1 = false
      · rw [if_pos hc]; exact ⟨Nat.le_refl _, h⟩
      · rw [if_neg hc]
        have := ih false (i + (charAt bs i).2) (charAt_in bs i hi)
        omega
    · rw [if_neg hi]; exact ⟨Nat.le_refl _, h⟩
theorem endN_b (bs : List Int) (plain first : Bool) (i : Nat) (h : i ≤ bs.length) : i ≤ endN bs plain first i ∧ endN bs plain first i ≤ bs.length := endF_b bs plain _ first i h
/-- The bytes from a place to another. -/
def cut (bs : List Int) (i j : Nat) : List Int := (bs.drop i).take (j - i)
/-- The name at a place, the place behind it, the error. -/
def readN (bs : List Int) (plain : Bool) (at_ : Int) : List Int × Int × Int :=
  if at_ < 0 ∨ (bs.length : Int) < at_ then ([], 0, 3)
  else if endN bs plain true at_.toNat = at_.toNat then ([], 0, 7)
  else if 1024 < endN bs plain true at_.toNat - at_.toNat then ([], 0, 11)
  else (cut bs at_.toNat (endN bs plain true at_.toNat), endN bs plain true at_.toNat, 0)
/-- Is a text a name? -/
def isN (bs : List Int) (plain : Bool) : Bool := decide (0 < bs.length) && decide (endN bs plain true 0 = bs.length)
/-- Blanks from a place on, passed over. -/
def blankF (bs : List Int) : Nat → Nat → Nat
  | 0, i => i
  | f + 1, i => if i < bs.length ∧ isBlank (bs.getD i 0) = true then blankF bs f (i + 1) else i
def blankN (bs : List Int) (i : Nat) : Nat := blankF bs (bs.length - i) i
theorem blankN_no (bs : List Int) (i : Nat) (h : bs.length ≤ i ∨ isBlank (bs.getD i 0) = false) : blankN bs i = i := by
  unfold blankN
  cases hf : bs.length - i with
  | zero => rfl
  | succ f =>
    unfold blankF; rw [if_neg]
    rintro ⟨h1, h2⟩
    rcases h with h | h
    · omega
    · rw [h] at h2; cases h2
theorem blankN_yes (bs : List Int) (i : Nat) (hi : i < bs.length) (h : isBlank (bs.getD i 0) = true) : blankN bs i = blankN bs (i + 1) := by
  unfold blankN
  have e : bs.length - i = bs.length - (i + 1) + 1 := by omega
  rw [e]
  conv => lhs; unfold blankF
  rw [if_pos ⟨hi, h⟩]
theorem blankF_b (bs : List Int) (f : Nat) : ∀ i : Nat, i ≤ bs.length → i ≤ blankF bs f i ∧ blankF bs f i ≤ bs.length := by
  induction f with
  | zero => exact fun i h => ⟨Nat.le_refl _, h⟩
  | succ f ih =>
    intro i h
    unfold blankF
    split
    · have := ih (i + 1) (by omega); omega
    · omega
theorem blankN_b (bs : List Int) (i : Nat) (h : i ≤ bs.length) : i ≤ blankN bs i ∧ blankN bs i ≤ bs.length := blankF_b bs _ i h
/-- Blanks, wherever. -/
def blankZ (bs : List Int) (at_ : Int) : Int := if at_ < 0 ∨ (bs.length : Int) < at_ then at_ else blankN bs at_.toNat
end Go.Proofs.YtlifdmehejehjaaDoor.NamePlain
