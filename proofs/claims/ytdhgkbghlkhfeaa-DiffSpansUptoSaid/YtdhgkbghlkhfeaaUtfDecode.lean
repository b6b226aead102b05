/- The contract of utf.Decode: one character at a place. Conditions: the table of forms holds what the text gives it; bytes read as numbers from 0 to 255. -/
import Derived.Test.YtdhgkbghlkhfeaaUtfBits
import Derived.Test.YtdhgkbghlkhfeaaUtfChar
import Derived.Deep.QuietTactic
import Derived.BigQuiet
namespace Go.Proofs.Ytdhgkbghlkhfeaa
open Go.RowKit Go.Proofs.Ytdhgkbghlkhfeaa.UtfPlain
/-- The cells of the table of forms. -/
def formCells : List Value := [.int .u8 0, .int .u8 0, .int .i64 0, .int .u8 0, .int .u8 127, .int .i64 0, .int .u8 192, .int .u8 31, .int .i64 128, .int .u8 224, .int .u8 15, .int .i64 2048, .int .u8 240, .int .u8 7, .int .i64 65536]
/-- How many bytes, by a first one. -/
def lenOf (c : Int) : Nat := if c < 128 then 1 else if c < 192 then 0 else if c < 224 then 2 else if c < 240 then 3 else if c < 248 then 4 else 0
/-- What Decode gives: nothing and an error, or the character and the place behind. -/
def TellDecode (i : Nat) (p : Int × Nat) (w : World) (e : Ending) (w' : World) : Prop :=
  e = .returned (.tuple #[.int .i64 (if p.2 = 0 then 0 else p.1), .int .i64 (if p.2 = 0 then 0 else (i : Int) + p.2), .int .i64 (if p.2 = 0 then 5 else 0)]) ∧ ∃ d, w' = w.drewN d
theorem addAdd (a : Addr) (i j : Nat) : (a.add i).add j = a.add (i + j) := by
  unfold Addr.add
  by_cases hi : i = 0 <;> by_cases hj : j = 0 <;> simp [hi, hj, Nat.add_assoc]
/-- What the first byte and those behind it make. -/
def acc (xs : List Int) (i : Nat) (c0 : Int) : Nat → Int
  | 0 => c0
  | j + 1 => acc xs i c0 j * 64 + rest xs (i + 1 + j)
/-- The bytes behind the first one are what they must be. -/
def good (xs : List Int) (i j : Nat) : Prop := ∀ t, t < j → 0 ≤ rest xs (i + 1 + t)
theorem acc_b (xs : List Int) (i : Nat) (c0 : Int) (h0 : 0 ≤ c0) (h1 : c0 < 32) (j : Nat) (hj : j ≤ 3) (hg : good xs i j) : 0 ≤ acc xs i c0 j ∧ acc xs i c0 j < 8388608 := by
  have b := fun t => rest_b xs t
  have h : ∀ j, j ≤ 3 → good xs i j → 0 ≤ acc xs i c0 j ∧ acc xs i c0 j < 32 * 64 ^ j := by
    intro j
    induction j with
    | zero => intro _ _; simp [acc]; omega
    | succ j ih =>
      intro hj hg
      have h2 := ih (by omega) (fun t ht => hg t (by omega))
      have h3 := hg j (by omega)
      have h4 := b (i + 1 + j)
      have e : (64 : Int) ^ (j + 1) = 64 ^ j * 64 := Int.pow_succ 64 j
      simp only [acc]
      omega
  have h2 := h j hj hg
  have h3 : (64 : Int) ^ j ≤ 64 ^ 3 := by
    have : j = 0 ∨ j = 1 ∨ j = 2 ∨ j = 3 := by omega
    rcases this with rfl | rfl | rfl | rfl <;> decide
  omega
/-- What Decode gives at a first byte of two to four: the bytes behind it are wrong; the number is; all is well. -/
def DecodeMany (xs : List Int) (i m : Nat) (c0 least : Int) (w : World) (e : Ending) (w' : World) : Prop := ∃ d, w' = w.drewN d ∧
      ((¬ good xs i (m - 1) ∧ e = .returned (.tuple #[.int .i64 0, .int .i64 0, .int .i64 5])) ∨
       (good xs i (m - 1) ∧ (acc xs i c0 (m - 1) < least ∨ isR (acc xs i c0 (m - 1)) = false) ∧ e = .returned (.tuple #[.int .i64 0, .int .i64 0, .int .i64 5])) ∨
       (good xs i (m - 1) ∧ least ≤ acc xs i c0 (m - 1) ∧ isR (acc xs i c0 (m - 1)) = true ∧ e = .returned (.tuple #[.int .i64 (acc xs i c0 (m - 1)), .int .i64 ((i : Int) + m), .int .i64 0])))
/-- What the first byte says of the number. -/
def base (m : Nat) : Int := if m = 2 then 192 else if m = 3 then 224 else 240
def leastOf (m : Nat) : Int := if m = 2 then 128 else if m = 3 then 2048 else 65536
theorem charAt_short (xs : List Int) (i : Nat) (c : Int) (hx : xs[i]? = some c) (h : lenOf c = 0 ∨ xs.length < i + lenOf c) : charAt xs i = (0, 0) := by
  have hi := (List.getElem?_eq_some_iff.1 hx).1
  apply charAt_none
  have e0 : xs.getD i 0 = c := by rw [List.getD_eq_getElem?_getD, hx]; rfl
  rw [e0]
  have hr : ∀ k, xs.length ≤ k → rest xs k = -1 := fun k hk => by unfold rest; rw [List.getElem?_eq_none hk]
  unfold lenOf at h
  unfold cand
  by_cases k1 : c < 128
  · rw [if_pos k1] at h; omega
  · rw [if_neg k1] at h ⊢
    by_cases k2 : c < 192
    · rw [if_neg (by omega), if_neg (by omega), if_neg (by omega)]
    · rw [if_neg k2] at h
      by_cases k3 : c < 224
      · rw [if_pos k3] at h
        have := hr (i + 1) (by omega)
        rw [if_neg (by omega), if_neg (by omega), if_neg (by omega)]
      · rw [if_neg k3] at h
        by_cases k4 : c < 240
        · rw [if_pos k4] at h
          have := hr (i + 2) (by omega)
          rw [if_neg (by omega), if_neg (by omega), if_neg (by omega)]
        · rw [if_neg k4] at h
          by_cases k5 : c < 248
          · rw [if_pos k5] at h
            have := hr (i + 3) (by omega)
            rw [if_neg (by omega), if_neg (by omega), if_neg (by omega)]
          · rw [if_neg (by omega), if_neg (by omega), if_neg (by omega)]
theorem charAt_bad (xs : List Int) (i m : Nat) (c : Int) (hx : xs[i]? = some c) (hm : lenOf c = m) (h1 : 2 ≤ m) (hg : ¬ good xs i (m - 1)) : charAt xs i = (0, 0) := by
  apply charAt_none
  have e0 : xs.getD i 0 = c := by rw [List.getD_eq_getElem?_getD, hx]; rfl
  rw [e0]
  unfold cand
  by_cases k1 : c < 128
  · unfold lenOf at hm; rw [if_pos k1] at hm; omega
  · rw [if_neg k1]
    by_cases a2 : 192 ≤ c ∧ c < 224 ∧ 0 ≤ rest xs (i + 1)
    · exfalso
      have : m = 2 := by rw [← hm]; unfold lenOf; rw [if_neg k1, if_neg (by omega), if_pos a2.2.1]
      subst this
      exact hg fun t ht => by obtain rfl : t = 0 := by omega
                              exact a2.2.2
    · rw [if_neg a2]
      by_cases a3 : 224 ≤ c ∧ c < 240 ∧ 0 ≤ rest xs (i + 1) ∧ 0 ≤ rest xs (i + 2)
      · exfalso
        have : m = 3 := by rw [← hm]; unfold lenOf; rw [if_neg k1, if_neg (by omega), if_neg (by omega), if_pos a3.2.1]
        subst this
        exact hg fun t ht => by
          rcases (by omega : t = 0 ∨ t = 1) with rfl | rfl
          · exact a3.2.2.1
          · exact a3.2.2.2
      · rw [if_neg a3]
        by_cases a4 : 240 ≤ c ∧ c < 248 ∧ 0 ≤ rest xs (i + 1) ∧ 0 ≤ rest xs (i + 2) ∧ 0 ≤ rest xs (i + 3)
        · exfalso
          have : m = 4 := by rw [← hm]; unfold lenOf; rw [if_neg k1, if_neg (by omega), if_neg (by omega), if_neg (by omega), if_pos a4.2.1]
          subst this
          exact hg fun t ht => by
            rcases (by omega : t = 0 ∨ t = 1 ∨ t = 2) with rfl | rfl | rfl
            · exact a4.2.2.1
            · exact a4.2.2.2.1
            · exact a4.2.2.2.2
        · rw [if_neg a4]
theorem charAt_good (xs : List Int) (i m : Nat) (c : Int) (hx : xs[i]? = some c) (hm : lenOf c = m) (h1 : 2 ≤ m) (hg : good xs i (m - 1)) : charAt xs i = endOf (acc xs i (c - base m) (m - 1)) m := by
  have e0 : xs.getD i 0 = c := by rw [List.getD_eq_getElem?_getD, hx]; rfl
  apply charAt_of _ _ _ _ _ (by omega)
  rw [e0]
  have hc : (m = 2 ∧ 192 ≤ c ∧ c < 224) ∨ (m = 3 ∧ 224 ≤ c ∧ c < 240) ∨ (m = 4 ∧ 240 ≤ c ∧ c < 248) := by
    unfold lenOf at hm
    split at hm
    · omega
    · split at hm
      · omega
      · split at hm
        · omega
        · split at hm
          · omega
          · split at hm <;> omega
  rcases hc with ⟨rfl, a1, a2⟩ | ⟨rfl, a1, a2⟩ | ⟨rfl, a1, a2⟩
  · have g0 := hg 0 (by omega)
    unfold cand; rw [if_neg (by omega), if_pos ⟨a1, a2, g0⟩]; rfl
  · have g0 := hg 0 (by omega)
    have g1 := hg 1 (by omega)
    unfold cand; rw [if_neg (by omega), if_neg (by omega), if_pos ⟨a1, a2, g0, g1⟩]; rfl
  · have g0 := hg 0 (by omega)
    have g1 := hg 1 (by omega)
    have g2 := hg 2 (by omega)
    unfold cand; rw [if_neg (by omega), if_neg (by omega), if_neg (by omega), if_pos ⟨a1, a2, g0, g1, g2⟩]; rfl
theorem sizeR_least (r : Int) (m : Nat) (h1 : 2 ≤ m) (h2 : m ≤ 4) (hr : (m = 2 → r < 2048) ∧ (m = 3 → r < 65536)) : leastOf m ≤ r ↔ sizeR r = m := by
  rcases (by omega : m = 2 ∨ m = 3 ∨ m = 4) with rfl | rfl | rfl
  · have := hr.1 rfl
    show (128 : Int) ≤ r ↔ sizeR r = 2
    unfold sizeR; split <;> (try split) <;> (try split) <;> omega
  · have := hr.2 rfl
    show (2048 : Int) ≤ r ↔ sizeR r = 3
    unfold sizeR; split <;> (try split) <;> (try split) <;> omega
  · show (65536 : Int) ≤ r ↔ sizeR r = 4
    unfold sizeR; split <;> (try split) <;> (try split) <;> omega
theorem acc_high (xs : List Int) (i m : Nat) (c : Int) (hm : (m = 2 ∧ 192 ≤ c ∧ c < 224) ∨ (m = 3 ∧ 224 ≤ c ∧ c < 240) ∨ (m = 4 ∧ 240 ≤ c ∧ c < 248)) :
    (m = 2 → acc xs i (c - base m) (m - 1) < 2048) ∧ (m = 3 → acc xs i (c - base m) (m - 1) < 65536) := by
  have b1 := rest_b xs (i + 1 + 0)
  have b2 := rest_b xs (i + 1 + 1)
  rcases hm with ⟨rfl, a1, a2⟩ | ⟨rfl, a1, a2⟩ | ⟨rfl, a1, a2⟩
  · refine ⟨fun _ => ?_, fun h => by omega⟩
    show (c - base 2) * 64 + rest xs (i + 1 + 0) < 2048
    have : base 2 = 192 := rfl
    omega
  · refine ⟨fun h => by omega, fun _ => ?_⟩
    show ((c - base 3) * 64 + rest xs (i + 1 + 0)) * 64 + rest xs (i + 1 + 1) < 65536
    have : base 3 = 224 := rfl
    omega
  · exact ⟨fun h => by omega, fun h => by omega⟩
end Go.Proofs.Ytdhgkbghlkhfeaa
