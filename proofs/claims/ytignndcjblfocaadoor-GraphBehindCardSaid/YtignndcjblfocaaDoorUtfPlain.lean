/- Plain facts on characters as bytes (no program in sight). Bytes are numbers from 0 to 255. -/
namespace Go.Proofs.YtignndcjblfocaaDoor.UtfPlain
def isR (r : Int) : Bool := decide (0 ≤ r ∧ r ≤ 1114111 ∧ ¬ (55296 ≤ r ∧ r ≤ 57343))
/-- The bytes of a character. -/
def encL (r : Int) : List Int :=
  if r < 128 then [r] else if r < 2048 then [192 + r / 64, 128 + r % 64] else if r < 65536 then [224 + r / 4096, 128 + r / 64 % 64, 128 + r % 64]
  else [240 + r / 262144, 128 + r / 4096 % 64, 128 + r / 64 % 64, 128 + r % 64]
def sizeR (r : Int) : Nat := if r < 128 then 1 else if r < 2048 then 2 else if r < 65536 then 3 else 4
theorem encL_length (r : Int) : (encL r).length = sizeR r := by unfold encL sizeR; split <;> (try split) <;> (try split) <;> rfl
theorem sizeR_b (r : Int) : 1 ≤ sizeR r ∧ sizeR r ≤ 4 := by unfold sizeR; split <;> (try split) <;> (try split) <;> omega
theorem encL_b (r : Int) (h : isR r = true) : ∀ x ∈ encL r, 0 ≤ x ∧ x ≤ 255 := by
  simp only [isR, decide_eq_true_eq] at h
  unfold encL
  split
  · intro x hx; simp at hx; omega
  · split
    · intro x hx; simp at hx; omega
    · split
      · intro x hx; simp at hx; omega
      · intro x hx; simp at hx; omega
/-- What a byte of 128 to 191 at a place says; below 0: none is there. -/
def rest (bs : List Int) (i : Nat) : Int := match bs[i]? with
  | some b => if 128 ≤ b ∧ b ≤ 191 then b - 128 else -1
  | none => -1
theorem rest_b (bs : List Int) (i : Nat) : -1 ≤ rest bs i ∧ rest bs i ≤ 63 := by unfold rest; split <;> (try split) <;> omega
/-- The number and the bytes of a candidate; 0 bytes: none. -/
def cand (c x y z : Int) : Int × Nat :=
  if c < 128 then (c, 1) else if 192 ≤ c ∧ c < 224 ∧ 0 ≤ x then ((c - 192) * 64 + x, 2)
  else if 224 ≤ c ∧ c < 240 ∧ 0 ≤ x ∧ 0 ≤ y then (((c - 224) * 64 + x) * 64 + y, 3)
  else if 240 ≤ c ∧ c < 248 ∧ 0 ≤ x ∧ 0 ≤ y ∧ 0 ≤ z then ((((c - 240) * 64 + x) * 64 + y) * 64 + z, 4) else (-1, 0)
def charOf (c x y z : Int) : Int × Nat :=
  if (cand c x y z).2 = 0 ∨ isR (cand c x y z).1 = false ∨ sizeR (cand c x y z).1 ≠ (cand c x y z).2 then (0, 0) else cand c x y z
/-- The character at a place, and how many bytes it has; 0: none is there. -/
def charAt (bs : List Int) (i : Nat) : Int × Nat := charOf (bs.getD i 0) (rest bs (i + 1)) (rest bs (i + 2)) (rest bs (i + 3))
theorem cand_b (c x y z : Int) (hc : 0 ≤ c ∧ c ≤ 255) (hx : -1 ≤ x ∧ x ≤ 63) (hy : -1 ≤ y ∧ y ≤ 63) (hz : -1 ≤ z ∧ z ≤ 63) : -1 ≤ (cand c x y z).1 ∧ (cand c x y z).1 ≤ 2097151 ∧ (cand c x y z).2 ≤ 4 := by
  unfold cand
  split
  · simp; omega
  · split
    · simp; omega
    · split
      · simp; omega
      · split <;> simp <;> omega
theorem charOf_isR (c x y z : Int) (h : (charOf c x y z).2 ≠ 0) : isR (charOf c x y z).1 = true ∧ sizeR (charOf c x y z).1 = (charOf c x y z).2 := by
  unfold charOf at h ⊢
  split at h
  · exact absurd rfl h
  · rename_i h2
    rw [if_neg h2]
    have h3 : ¬ isR (cand c x y z).1 = false := fun e => h2 (.inr (.inl e))
    have h4 : ¬ sizeR (cand c x y z).1 ≠ (cand c x y z).2 := fun e => h2 (.inr (.inr e))
    exact ⟨by simpa using h3, by omega⟩
theorem charAt_size (bs : List Int) (i : Nat) : (charAt bs i).2 ≤ 4 := by
  unfold charAt
  by_cases h : (charOf (bs.getD i 0) (rest bs (i + 1)) (rest bs (i + 2)) (rest bs (i + 3))).2 = 0
  · omega
  · rw [← (charOf_isR _ _ _ _ h).2]; exact (sizeR_b _).2
/-- A character ends within the bytes. -/
theorem charAt_in (bs : List Int) (i : Nat) (hi : i < bs.length) : i + (charAt bs i).2 ≤ bs.length := by
  have hx : ∀ k, 0 ≤ rest bs k → k < bs.length := fun k h => by
    rcases Nat.lt_or_ge k bs.length with hl | hg
    · exact hl
    · unfold rest at h; rw [List.getElem?_eq_none hg] at h; simp at h
  unfold charAt charOf
  split
  · simp; omega
  · unfold cand
    split
    · simp; omega
    · split
      · rename_i h1 h2; have := hx _ h2.2.2; simp; omega
      · split
        · rename_i h1 h2 h3; have := hx _ h3.2.2.2; simp; omega
        · split
          · rename_i h1 h2 h3 h4; have := hx _ h4.2.2.2.2; simp; omega
          · simp; omega
/-- All characters from a place on; the place of the first that is none. -/
def scan (bs : List Int) : Nat → Nat → List Int × Option Nat
  | 0, _ => ([], none)
  | f + 1, i => if i < bs.length then (if (charAt bs i).2 = 0 then ([], some i) else ((charAt bs i).1 :: (scan bs f (i + (charAt bs i).2)).1, (scan bs f (i + (charAt bs i).2)).2)) else ([], none)
def runes (bs : List Int) : List Int × Option Nat := scan bs bs.length 0
theorem scan_end (bs : List Int) (f i : Nat) (h : bs.length ≤ i) : scan bs f i = ([], none) := by
  cases f with
  | zero => rfl
  | succ f => unfold scan; rw [if_neg (by omega)]
theorem scan_bad (bs : List Int) (f i : Nat) (hf : 0 < f) (h : i < bs.length) (hc : (charAt bs i).2 = 0) : scan bs f i = ([], some i) := by
  cases f with
  | zero => omega
  | succ f => unfold scan; rw [if_pos h, if_pos hc]
theorem scan_fuel (bs : List Int) (f g i : Nat) (hf : bs.length - i ≤ f) (hg : bs.length - i ≤ g) : scan bs f i = scan bs g i := by
  induction f generalizing g i with
  | zero => rw [scan_end bs g i (by omega)]; rfl
  | succ f ih =>
    cases g with
    | zero => rw [scan_end bs (f + 1) i (by omega)]; rfl
    | succ g =>
      unfold scan
      by_cases h : i < bs.length
      · rw [if_pos h, if_pos h]
        by_cases hc : (charAt bs i).2 = 0
        · rw [if_pos hc, if_pos hc]
        · rw [if_neg hc, if_neg hc, ih g _ (by omega) (by omega)]
      · rw [if_neg h, if_neg h]
theorem scan_ok (bs : List Int) (i : Nat) (h : i < bs.length) (hc : (charAt bs i).2 ≠ 0) :
    scan bs (bs.length - i) i = ((charAt bs i).1 :: (scan bs (bs.length - (i + (charAt bs i).2)) (i + (charAt bs i).2)).1, (scan bs (bs.length - (i + (charAt bs i).2)) (i + (charAt bs i).2)).2) := by
  rw [scan_fuel bs (bs.length - i) (bs.length - i - 1 + 1) i (by omega) (by omega)]
  show scan bs (bs.length - i - 1 + 1) i = _
  rw [scan_fuel bs (bs.length - (i + (charAt bs i).2)) (bs.length - i - 1) (i + (charAt bs i).2) (by omega) (by omega)]
  conv => lhs; unfold scan
  rw [if_pos h, if_neg hc]
end Go.Proofs.YtignndcjblfocaaDoor.UtfPlain
