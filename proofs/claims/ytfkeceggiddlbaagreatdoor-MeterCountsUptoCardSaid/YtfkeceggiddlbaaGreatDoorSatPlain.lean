/- Plain arithmetic of held numbers (no program in sight): sums, products and powers that stop at the greatest int64. -/
namespace Go.Proofs.YtfkeceggiddlbaaGreatDoor.SatPlain

/-- The greatest number, behind a name. -/
def cap : Int := 9223372036854775807
/-- 0 at least. -/
def holdS (a : Int) : Int := max a 0
def addS (a b : Int) : Int := min (holdS a + holdS b) cap
def subS (a b : Int) : Int := holdS (holdS a - holdS b)
def mulS (a b : Int) : Int := min (holdS a * holdS b) cap
def sumS : List Int → Int
  | [] => 0
  | x :: r => addS x (sumS r)
/-- A power, held. -/
def powS (a : Int) : Nat → Int
  | 0 => 1
  | n + 1 => mulS (powS a n) a

theorem holdS_b (a : Int) (h : a ≤ 9223372036854775807) : 0 ≤ holdS a ∧ holdS a ≤ 9223372036854775807 := by unfold holdS; omega
theorem holdS_0 (a : Int) : 0 ≤ holdS a := by unfold holdS; omega
theorem holdS_of (a : Int) (h : 0 ≤ a) : holdS a = a := by unfold holdS; omega
theorem addS_b (a b : Int) : 0 ≤ addS a b ∧ addS a b ≤ 9223372036854775807 := by
  have := holdS_0 a; have := holdS_0 b; unfold addS cap; omega
theorem subS_b (a b : Int) (ha : a ≤ 9223372036854775807) : 0 ≤ subS a b ∧ subS a b ≤ 9223372036854775807 := by
  have := holdS_0 a; have := holdS_0 b; unfold subS holdS; omega
theorem mulS_b (a b : Int) : 0 ≤ mulS a b ∧ mulS a b ≤ 9223372036854775807 := by
  have := Int.mul_nonneg (holdS_0 a) (holdS_0 b); unfold mulS cap; omega
theorem holdS_addS (a b : Int) : holdS (addS a b) = addS a b := holdS_of _ (addS_b a b).1
theorem holdS_mulS (a b : Int) : holdS (mulS a b) = mulS a b := holdS_of _ (mulS_b a b).1
theorem addS_comm (a b : Int) : addS a b = addS b a := by unfold addS; omega
theorem mulS_comm (a b : Int) : mulS a b = mulS b a := by unfold mulS; rw [Int.mul_comm]
theorem addS_assoc (a b c : Int) : addS (addS a b) c = addS a (addS b c) := by
  have ha := holdS_0 a; have hb := holdS_0 b; have hc := holdS_0 c
  have h1 := holdS_addS a b; have h2 := holdS_addS b c
  unfold addS at *; rw [h1, h2]; unfold cap; omega
/-- A held factor serves as well as the whole one. -/
theorem min_mul_left (x y : Int) (hx : 0 ≤ x) : min (x * min y cap) cap = min (x * y) cap := by
  by_cases h : y ≤ cap
  · rw [show min y cap = y from by omega]
  · have hc : (0 : Int) ≤ cap := by unfold cap; omega
    rw [show min y cap = cap from by omega]
    by_cases h0 : x = 0
    · subst h0; rw [Int.zero_mul, Int.zero_mul]
    · have h1 : cap ≤ x * cap := by
        have := Int.mul_le_mul_of_nonneg_right (show 1 ≤ x by omega) hc; omega
      have h2 : cap ≤ x * y := by
        have := Int.mul_le_mul_of_nonneg_left (show cap ≤ y by omega) hx; omega
      omega
theorem mulS_assoc (a b c : Int) : mulS (mulS a b) c = mulS a (mulS b c) := by
  have ha := holdS_0 a; have hb := holdS_0 b; have hc := holdS_0 c
  have h1 := holdS_mulS a b; have h2 := holdS_mulS b c
  have e1 : mulS (mulS a b) c = min (holdS a * holdS b * holdS c) cap := by
    rw [mulS_comm]; unfold mulS at *; rw [h1]
    rw [min_mul_left _ _ hc, Int.mul_comm]
  have e2 : mulS a (mulS b c) = min (holdS a * (holdS b * holdS c)) cap := by
    unfold mulS at *; rw [h2]
    rw [min_mul_left _ _ ha]
  rw [e1, e2, Int.mul_assoc]
theorem mulS_addS (a b c : Int) : mulS a (addS b c) = addS (mulS a b) (mulS a c) := by
  have ha := holdS_0 a; have hb := holdS_0 b; have hc := holdS_0 c
  have e1 : mulS a (addS b c) = min (holdS a * (holdS b + holdS c)) cap := by
    have h1 := holdS_addS b c
    unfold mulS addS at *; rw [h1, min_mul_left _ _ ha]
  have h1 := holdS_mulS a b; have h2 := holdS_mulS a c
  have p1 := Int.mul_nonneg ha hb; have p2 := Int.mul_nonneg ha hc
  rw [e1, Int.mul_add]
  unfold addS; rw [h1, h2]; unfold mulS; unfold cap; omega
theorem addS_zero (a : Int) (h0 : 0 ≤ a) (h : a ≤ 9223372036854775807) : addS 0 a = a := by
  unfold addS holdS cap; omega
theorem addS_ge_left (a b : Int) (h : a ≤ 9223372036854775807) : holdS a ≤ addS a b := by
  have := holdS_0 a; have := holdS_0 b; have := holdS_b a h; unfold addS cap; omega
theorem subS_le (a b : Int) : subS a b ≤ holdS a := by
  have := holdS_0 a; have := holdS_0 b; unfold subS; unfold holdS at *; omega
theorem sumS_b (l : List Int) : 0 ≤ sumS l ∧ sumS l ≤ 9223372036854775807 := by
  cases l with
  | nil => simp [sumS]
  | cons x r => exact addS_b _ _
theorem sumS_append (l m : List Int) : sumS (l ++ m) = addS (sumS l) (sumS m) := by
  induction l with
  | nil => simp [sumS]; rw [addS_zero _ (sumS_b m).1 (sumS_b m).2]
  | cons x r ih => simp [sumS]; rw [ih, addS_assoc]
theorem sumS_snoc (l : List Int) (x : Int) : sumS (l ++ [x]) = addS (sumS l) x := by
  rw [sumS_append]; show addS (sumS l) (addS x 0) = addS (sumS l) x
  have e : addS x 0 = min (holdS x) cap := by unfold addS holdS cap; omega
  have h0 := holdS_0 x; have := holdS_0 (sumS l)
  rw [e]
  generalize sumS l = s at *
  unfold addS; rw [holdS_of (min (holdS x) cap) (by unfold cap; omega)]; unfold cap; omega
theorem powS_b (a : Int) (n : Nat) : 0 ≤ powS a n ∧ powS a n ≤ 9223372036854775807 := by
  cases n with
  | zero => simp [powS]
  | succ n => exact mulS_b _ _
theorem powS_zero (a : Int) : powS a 0 = 1 := rfl
theorem powS_succ (a : Int) (n : Nat) : powS a (n + 1) = mulS (powS a n) a := rfl
theorem mulS_one (a : Int) (h0 : 0 ≤ a) (h : a ≤ 9223372036854775807) : mulS 1 a = a := by
  unfold mulS; rw [holdS_of a h0, holdS_of 1 (by omega)]; unfold cap; omega
/-- Where a further factor changes nothing, no more of them do. -/
theorem powS_stop (a : Int) (n : Nat) (h : mulS (powS a n) a = powS a n) (k : Nat) : powS a (n + k) = powS a n := by
  induction k with
  | zero => rfl
  | succ k ih => rw [← Nat.add_assoc, powS_succ, ih, h]
theorem mulS_holdS (a b : Int) : mulS a (holdS b) = mulS a b := by
  unfold mulS; rw [holdS_of (holdS b) (holdS_0 b)]
/-- By squares: an even power, an odd one. -/
theorem powS_sq (a : Int) (n : Nat) : powS (mulS a a) n = powS a (2 * n) := by
  induction n with
  | zero => rfl
  | succ n ih =>
    rw [powS_succ, ih, show 2 * (n + 1) = 2 * n + 1 + 1 from by omega, powS_succ, powS_succ, mulS_assoc]
theorem powS_add (a : Int) (m n : Nat) : powS a (m + n) = mulS (powS a m) (powS a n) := by
  induction n with
  | zero =>
    rw [powS_zero, mulS_comm]
    exact (mulS_one _ (powS_b a m).1 (powS_b a m).2).symm
  | succ n ih => rw [← Nat.add_assoc, powS_succ, powS_succ, ih, mulS_assoc]
theorem sq_even (o a : Int) (n : Nat) : mulS o (powS a (2 * n)) = mulS o (powS (mulS a a) n) := by rw [powS_sq]
theorem sq_odd (o a : Int) (n : Nat) : mulS o (powS a (2 * n + 1)) = mulS (mulS o a) (powS (mulS a a) n) := by
  rw [powS_sq, powS_succ, mulS_assoc, mulS_comm a]
/-- The product bit by bit: what the highest bits of x make, times y, held. -/
def bitS (x y : Int) (k : Nat) : Int := min ((x / 2 ^ k) * y) cap
theorem bitS_top (x y : Int) (h0 : 0 ≤ x) (h : x ≤ 9223372036854775807) : bitS x y 63 = 0 := by
  unfold bitS
  have : x / 2 ^ 63 = 0 := Int.ediv_eq_zero_of_lt h0 (by omega)
  rw [this, Int.zero_mul]; unfold cap; omega
theorem bitS_zero (x y : Int) : bitS x y 0 = min (x * y) cap := by unfold bitS; simp
theorem bitS_b (x y : Int) (k : Nat) (hx : 0 ≤ x) (hy : 0 ≤ y) : 0 ≤ bitS x y k ∧ bitS x y k ≤ 9223372036854775807 := by
  have h1 : 0 ≤ x / 2 ^ k := Int.ediv_nonneg hx (Int.le_of_lt (Int.pow_pos (by omega)))
  have := Int.mul_nonneg h1 hy
  unfold bitS cap; omega
theorem div_step (x : Int) (k : Nat) : x / 2 ^ k = 2 * (x / 2 ^ (k + 1)) + (x / 2 ^ k) % 2 := by
  have : x / 2 ^ (k + 1) = (x / 2 ^ k) / 2 := by
    rw [Int.pow_succ, Int.ediv_ediv_of_nonneg (Int.le_of_lt (Int.pow_pos (by omega)))]
  rw [this]; omega
theorem bitS_even (x y : Int) (k : Nat) (hx : 0 ≤ x) (hy : 0 ≤ y) (h : (x / 2 ^ k) % 2 = 0) : addS (bitS x y (k + 1)) (bitS x y (k + 1)) = bitS x y k := by
  have hb := bitS_b x y (k + 1) hx hy
  have e := div_step x k
  rw [h] at e
  have h1 : 0 ≤ x / 2 ^ (k + 1) := Int.ediv_nonneg hx (Int.le_of_lt (Int.pow_pos (by omega)))
  have hm := Int.mul_nonneg h1 hy
  unfold addS; rw [holdS_of _ hb.1]; unfold bitS; rw [e, Int.add_zero, Int.mul_assoc]; unfold cap; omega
theorem bitS_odd (x y : Int) (k : Nat) (hx : 0 ≤ x) (hy : 0 ≤ y) (h : (x / 2 ^ k) % 2 = 1) : addS (addS (bitS x y (k + 1)) (bitS x y (k + 1))) y = bitS x y k := by
  have hb := bitS_b x y (k + 1) hx hy
  have e := div_step x k
  rw [h] at e
  have h1 : 0 ≤ x / 2 ^ (k + 1) := Int.ediv_nonneg hx (Int.le_of_lt (Int.pow_pos (by omega)))
  have hm := Int.mul_nonneg h1 hy
  have hd := addS_b (bitS x y (k + 1)) (bitS x y (k + 1))
  have : addS (bitS x y (k + 1)) (bitS x y (k + 1)) = min (2 * (x / 2 ^ (k + 1) * y)) cap := by
    unfold addS; rw [holdS_of _ hb.1]; unfold bitS; unfold cap; omega
  rw [this]; rw [this] at hd
  unfold addS; rw [holdS_of _ hd.1, holdS_of y hy]; unfold bitS; rw [e, Int.add_mul, Int.mul_assoc]; unfold cap; omega
end Go.Proofs.YtfkeceggiddlbaaGreatDoor.SatPlain
