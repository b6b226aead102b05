/- Plain facts on the classes of characters (no program in sight). -/
namespace Go.Proofs.YtignndcjblfocaaDoor.CharsPlain

def isChar (r : Int) : Bool := decide (r = 9 ∨ r = 10 ∨ r = 13 ∨ (32 ≤ r ∧ r ≤ 55295) ∨ (57344 ≤ r ∧ r ≤ 65533) ∨ (65536 ≤ r ∧ r ≤ 1114111))
def isBlank (r : Int) : Bool := decide (r = 32 ∨ r = 9 ∨ r = 13 ∨ r = 10)
def isStart (r : Int) : Bool :=
  decide (r = 58 ∨ (65 ≤ r ∧ r ≤ 90) ∨ r = 95 ∨ (97 ≤ r ∧ r ≤ 122) ∨ (192 ≤ r ∧ r ≤ 214) ∨ (216 ≤ r ∧ r ≤ 246) ∨ (248 ≤ r ∧ r ≤ 767) ∨ (880 ≤ r ∧ r ≤ 893) ∨ (895 ≤ r ∧ r ≤ 8191) ∨ (8204 ≤ r ∧ r ≤ 8205) ∨
    (8304 ≤ r ∧ r ≤ 8591) ∨ (11264 ≤ r ∧ r ≤ 12271) ∨ (12289 ≤ r ∧ r ≤ 55295) ∨ (63744 ≤ r ∧ r ≤ 64975) ∨ (65008 ≤ r ∧ r ≤ 65533) ∨ (65536 ≤ r ∧ r ≤ 983039))
def isMore (r : Int) : Bool := decide ((45 ≤ r ∧ r ≤ 46) ∨ (48 ≤ r ∧ r ≤ 57) ∨ r = 183 ∨ (768 ≤ r ∧ r ≤ 879) ∨ (8255 ≤ r ∧ r ≤ 8256))
def isName (r : Int) : Bool := isStart r || isMore r
/-- The signs of a pubid. -/
def signs : List Int := [45, 39, 40, 41, 43, 44, 46, 47, 58, 61, 63, 59, 33, 42, 35, 64, 36, 95, 37]
def isSign (r : Int) : Bool := signs.contains r
def isLetter (r : Int) : Bool := decide ((97 ≤ r ∧ r ≤ 122) ∨ (65 ≤ r ∧ r ≤ 90) ∨ (48 ≤ r ∧ r ≤ 57))
def isPubid (r : Int) : Bool := isLetter r || decide (r = 32 ∨ r = 13 ∨ r = 10) || isSign r
def one (b : Bool) : Int := if b then 1 else 0
def classes (r : Int) : Int := one (isChar r) + 2 * one (isBlank r) + 4 * one (isStart r) + 8 * one (isName r) + 16 * one (isPubid r)
/-- What class k says of r. -/
def isK (k : Nat) (r : Int) : Bool := match k with
  | 0 => isChar r
  | 1 => isBlank r
  | 2 => isStart r
  | 3 => isName r
  | _ => isPubid r
def digit (r b : Int) : Int :=
  if b = 10 ∨ b = 16 then
    (if 48 ≤ r ∧ r ≤ 57 then r - 48 else if b = 16 ∧ 97 ≤ r ∧ r ≤ 102 then r - 87 else if b = 16 ∧ 65 ≤ r ∧ r ≤ 70 then r - 55 else -1)
  else -1

theorem one_b (b : Bool) : 0 ≤ one b ∧ one b ≤ 1 := by cases b <;> simp [one]
theorem isSign_iff (r : Int) : isSign r = true ↔ r = 33 ∨ r = 35 ∨ r = 36 ∨ r = 37 ∨ (39 ≤ r ∧ r ≤ 47) ∧ r ≠ 45 ∧ r ≠ 46 ∨ r = 45 ∨ r = 46 ∨ r = 58 ∨ r = 59 ∨ r = 61 ∨ r = 63 ∨ r = 64 ∨ r = 95 := by
  simp [isSign, signs]; omega
theorem sign_lt (r : Int) (h : isSign r = true) : 32 < r ∧ r < 128 := by rw [isSign_iff] at h; omega
theorem classes_b (r : Int) : 0 ≤ classes r ∧ classes r ≤ 31 := by
  have := one_b (isChar r); have := one_b (isBlank r); have := one_b (isStart r); have := one_b (isName r); have := one_b (isPubid r)
  unfold classes; omega
theorem one_mod (b : Bool) : (one b % 2 == 1) = b := by cases b <;> rfl
theorem one_eq (b : Bool) : (one b == 1) = b := by cases b <;> rfl
theorem bits5 (a b c d e : Bool) :
    ((one a + 2 * one b + 4 * one c + 8 * one d + 16 * one e) % 2 == 1) = a ∧ ((one a + 2 * one b + 4 * one c + 8 * one d + 16 * one e) / 2 % 2 == 1) = b ∧
    ((one a + 2 * one b + 4 * one c + 8 * one d + 16 * one e) / 2 / 2 % 2 == 1) = c ∧ ((one a + 2 * one b + 4 * one c + 8 * one d + 16 * one e) / 2 / 2 / 2 % 2 == 1) = d ∧
    ((one a + 2 * one b + 4 * one c + 8 * one d + 16 * one e) / 2 / 2 / 2 / 2 % 2 == 1) = e := by
  cases a <;> cases b <;> cases c <;> cases d <;> cases e <;> decide
/-- k times halved. -/
def halved (n : Int) : Nat → Int
  | 0 => n
  | k + 1 => halved n k / 2
theorem halved_b (n : Int) (h : 0 ≤ n ∧ n ≤ 31) (k : Nat) : 0 ≤ halved n k ∧ halved n k ≤ 31 := by
  induction k with
  | zero => exact h
  | succ k ih => show 0 ≤ halved n k / 2 ∧ halved n k / 2 ≤ 31; omega
theorem halved_isK (r : Int) (k : Nat) (hk : k < 5) : (halved (classes r) k % 2 == 1) = isK k r := by
  have h := bits5 (isChar r) (isBlank r) (isStart r) (isName r) (isPubid r)
  match k, hk with
  | 0, _ => exact h.1
  | 1, _ => exact h.2.1
  | 2, _ => exact h.2.2.1
  | 3, _ => exact h.2.2.2.1
  | 4, _ => exact h.2.2.2.2
theorem start_name (r : Int) (h : isStart r = true) : isName r = true := by simp [isName, h]
theorem start_char (r : Int) (h : isStart r = true) : isChar r = true := by simp only [isStart, isChar, decide_eq_true_eq] at *; omega
theorem name_char (r : Int) (h : isName r = true) : isChar r = true := by
  simp only [isName, Bool.or_eq_true] at h
  rcases h with h | h
  · exact start_char r h
  · simp only [isMore, isChar, decide_eq_true_eq] at *; omega
theorem blank_char (r : Int) (h : isBlank r = true) : isChar r = true := by simp only [isBlank, isChar, decide_eq_true_eq] at *; omega
theorem pubid_char (r : Int) (h : isPubid r = true) : isChar r = true := by
  simp only [isPubid, Bool.or_eq_true, isSign_iff, isLetter, isChar, decide_eq_true_eq] at *; omega
theorem digit_hi (r b : Int) : digit r b < b ∨ digit r b = -1 := by unfold digit; split <;> (try split) <;> (try split) <;> (try split) <;> omega
/-- The digits' two texts, as numbers. -/
def lowZ : List Int := [48, 49, 50, 51, 52, 53, 54, 55, 56, 57, 97, 98, 99, 100, 101, 102]
def upZ : List Int := [48, 49, 50, 51, 52, 53, 54, 55, 56, 57, 65, 66, 67, 68, 69, 70]
theorem lt16 (k : Nat) (h : k < 16) : k = 0 ∨ k = 1 ∨ k = 2 ∨ k = 3 ∨ k = 4 ∨ k = 5 ∨ k = 6 ∨ k = 7 ∨ k = 8 ∨ k = 9 ∨ k = 10 ∨ k = 11 ∨ k = 12 ∨ k = 13 ∨ k = 14 ∨ k = 15 := by omega
theorem dig_hit (r b : Int) (k : Nat) (hb : b = 10 ∨ b = 16) (hk : (k : Int) < b) (h : lowZ[k]? = some r ∨ upZ[k]? = some r) : digit r b = k := by
  rcases lt16 k (by omega) with h1 | h1 | h1 | h1 | h1 | h1 | h1 | h1 | h1 | h1 | h1 | h1 | h1 | h1 | h1 | h1 <;> subst h1 <;> simp [lowZ, upZ] at h <;> unfold digit <;> omega
theorem dig_none (r b : Int) (hb : b = 10 ∨ b = 16) (h : ∀ j : Nat, (j : Int) < b → lowZ[j]? ≠ some r ∧ upZ[j]? ≠ some r) : digit r b = -1 := by
  have a0 := h 0 (by omega); have a1 := h 1 (by omega); have a2 := h 2 (by omega); have a3 := h 3 (by omega); have a4 := h 4 (by omega)
  have a5 := h 5 (by omega); have a6 := h 6 (by omega); have a7 := h 7 (by omega); have a8 := h 8 (by omega); have a9 := h 9 (by omega)
  simp [lowZ, upZ] at a0 a1 a2 a3 a4 a5 a6 a7 a8 a9
  rcases hb with rfl | rfl
  · unfold digit; omega
  · have b0 := h 10 (by omega); have b1 := h 11 (by omega); have b2 := h 12 (by omega); have b3 := h 13 (by omega); have b4 := h 14 (by omega); have b5 := h 15 (by omega)
    simp [lowZ, upZ] at b0 b1 b2 b3 b4 b5
    unfold digit; omega
end Go.Proofs.YtignndcjblfocaaDoor.CharsPlain
