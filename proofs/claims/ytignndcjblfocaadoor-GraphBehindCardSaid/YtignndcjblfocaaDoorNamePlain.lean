/- Plain facts on names (no program in sight): the place behind a name; the name at a place; parts. Bytes are numbers from 0 to 255. -/
import Derived.Test.YtignndcjblfocaaDoorUtfPlain
import Derived.Test.YtignndcjblfocaaDoorCharsPlain
namespace Go.Proofs.YtignndcjblfocaaDoor.NamePlain
open Go.Proofs.YtignndcjblfocaaDoor.UtfPlain Go.Proofs.YtignndcjblfocaaDoor.CharsPlain
/-- May a character begin a name (first), or follow; plain: but for a colon? -/
def mayK (first plain : Bool) (r : Int) : Bool := (if first then isStart r else isName r) && !(plain && r == 58)
/-- The place behind a name from a place on, as far as some rounds go. -/
def endF (bs : List Int) (plain : Bool) : Nat → Bool → Nat → Nat
  | 0, _, i => i
  | f + 1, first, i => if i < bs.length then (if (charAt bs i).2 = 0 ∨ mayK first plain (charAt bs i).1 = false then i else endF bs plain f false (i + (charAt bs i).2)) else i
def endN (bs : List Int) (plain first : Bool) (i : Nat) : Nat := endF bs plain (bs.length - i) first i
theorem endF_end (bs : List Int) (plain first : Bool) (f i : Nat) (h : bs.length ≤ i) : endF bs plain f first i = i := by
  cases f with
  | zero => rfl
  | succ f => unfold endF; rw [if_neg (by omega)]
theorem endF_fuel (bs : List Int) (plain first : Bool) (f g i : Nat) (hf : bs.length - i ≤ f) (hg : bs.length - i ≤ g) : endF bs plain f first i = endF bs plain g first i := by
  induction f generalizing g i first with
  | zero => rw [endF_end bs plain first g i (by omega)]; rfl
  | succ f ih =>
    cases g with
    | zero => rw [endF_end bs plain first (f + 1) i (by omega)]; rfl
    | succ g =>
      unfold endF
      by_cases h : i < bs.length
      · rw [if_pos h, if_pos h]
        by_cases hc : (charAt bs i).2 = 0 ∨ mayK first plain (charAt bs i).1 = false
        · rw [if_pos hc, if_pos hc]
        · rw [if_neg hc, if_neg hc, ih false g _ (by omega) (by omega)]
      · rw [if_neg h, if_neg h]
theorem endN_at (bs : List Int) (plain first : Bool) (i : Nat) (h : bs.length ≤ i) : endN bs plain first i = i := endF_end bs plain first _ i h
theorem endN_no (bs : List Int) (plain first : Bool) (i : Nat) (h : (charAt bs i).2 = 0 ∨ mayK first plain (charAt bs i).1 = false) : endN bs plain first i = i := by
  unfold endN
  cases hf : bs.length - i with
  | zero => rfl
  | succ f => unfold endF; rw [if_pos (by omega), if_pos h]
theorem endN_yes (bs : List Int) (plain first : Bool) (i : Nat) (hi : i < bs.length) (h1 : (charAt bs i).2 ≠ 0) (h2 : mayK first plain (charAt bs i).1 = true) : endN bs plain first i = endN bs plain false (i + (charAt bs i).2) := by
  unfold endN
  rw [endF_fuel bs plain first (bs.length - i) (bs.length - i - 1 + 1) i (by omega) (by omega)]
  conv => lhs; unfold endF
  rw [if_pos hi, if_neg (by rw [h2]; simp [h1])]
  exact endF_fuel bs plain false _ _ _ (by omega) (by omega)
theorem endF_b (bs : List Int) (plain : Bool) (f : Nat) : ∀ (first : Bool) (i : Nat), i ≤ bs.length → i ≤ endF bs plain f first i ∧ endF bs plain f first i ≤ bs.length := by
  induction f with
  | zero => exact fun _ i h => ⟨Nat.le_refl _, h⟩
  | succ f ih =>
    intro first i h
    unfold endF
    by_cases hi : i < bs.length
    · rw [if_pos hi]
      by_cases hc : (charAt bs i).2 = 0 ∨ mayK first plain (charAt bs i).1 = false
      · rw [if_pos hc]; exact ⟨Nat.le_refl _, h⟩
      · rw [if_neg hc]
        have := ih false (i + (charAt bs i).2) (charAt_in bs i hi)
        omega
    · rw [if_neg hi]; exact ⟨Nat.le_refl _, h⟩
theorem endN_b (bs : List Int) (plain first : Bool) (i : Nat) (h : i ≤ bs.length) : i ≤ endN bs plain first i ∧ endN bs plain first i ≤ bs.length := endF_b bs plain _ first i h
/-- The bytes from a place to another. -/
def cut (bs : List Int) (i j : Nat) : List Int := (bs.drop i).take (j - i)
/-- The name at a place, the place behind it, the error. -/
def readN (bs : List Int) (plain : Bool) (at_ : Int) : List Int × Int × Int :=
  if at_ < 0 ∨ (bs.length : Int) < at_ then ([], 0, 3)
  else if endN bs plain true at_.toNat = at_.toNat then ([], 0, 7)
  else if 1024 < endN bs plain true at_.toNat - at_.toNat then ([], 0, 11)
  else (cut bs at_.toNat (endN bs plain true at_.toNat), endN bs plain true at_.toNat, 0)
/-- Is a text a name? -/
def isN (bs : List Int) (plain : Bool) : Bool := decide (0 < bs.length) && decide (endN bs plain true 0 = bs.length)
/-- Blanks from a place on, passed over. -/
def blankF (bs : List Int) : Nat → Nat → Nat
  | 0, i => i
  | f + 1, i => if i < bs.length ∧ isBlank (bs.getD i 0) = true then blankF bs f (i + 1) else i
def blankN (bs : List Int) (i : Nat) : Nat := blankF bs (bs.length - i) i
theorem blankN_no (bs : List Int) (i : Nat) (h : bs.length ≤ i ∨ isBlank (bs.getD i 0) = false) : blankN bs i = i := by
  unfold blankN
  cases hf : bs.length - i with
  | zero => rfl
  | succ f =>
    unfold blankF; rw [if_neg]
    rintro ⟨h1, h2⟩
    rcases h with h | h
    · omega
    · rw [h] at h2; cases h2
theorem blankN_yes (bs : List Int) (i : Nat) (hi : i < bs.length) (h : isBlank (bs.getD i 0) = true) : blankN bs i = blankN bs (i + 1) := by
  unfold blankN
  have e : bs.length - i = bs.length - (i + 1) + 1 := by omega
  rw [e]
  conv => lhs; unfold blankF
  rw [if_pos ⟨hi, h⟩]
theorem blankF_b (bs : List Int) (f : Nat) : ∀ i : Nat, i ≤ bs.length → i ≤ blankF bs f i ∧ blankF bs f i ≤ bs.length := by
  induction f with
  | zero => exact fun i h => ⟨Nat.le_refl _, h⟩
  | succ f ih =>
    intro i h
    unfold blankF
    split
    · have := ih (i + 1) (by omega); omega
    · omega
theorem blankN_b (bs : List Int) (i : Nat) (h : i ≤ bs.length) : i ≤ blankN bs i ∧ blankN bs i ≤ bs.length := blankF_b bs _ i h
/-- Blanks, wherever. -/
def blankZ (bs : List Int) (at_ : Int) : Int := if at_ < 0 ∨ (bs.length : Int) < at_ then at_ else blankN bs at_.toNat
end Go.Proofs.YtignndcjblfocaaDoor.NamePlain
