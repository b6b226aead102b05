/- Plain facts on references of a text (no program in sight). -/
import Derived.Test.YtkeclfhhilphpaaDoorPlainA
namespace Go.Proofs.YtkeclfhhilphpaaDoor.RefPlain
open Go.Proofs.YtkeclfhhilphpaaDoor.UtfPlain Go.Proofs.YtkeclfhhilphpaaDoor.CharsPlain Go.Proofs.YtkeclfhhilphpaaDoor.NamePlain
/-- A reference by its mark at a place: the name, the place behind, the error. -/
def entN (bs : List Int) (mark : Int) (i : Nat) : List Int × Nat × Int :=
  if i = bs.length ∨ ¬ bs.getD i 0 = mark then ([], 0, 7)
  else if ¬ (readN bs true ((i : Int) + 1)).2.2 = 0 then ([], 0, (readN bs true ((i : Int) + 1)).2.2)
  else if endN bs true true (i + 1) = bs.length ∨ ¬ bs.getD (endN bs true true (i + 1)) 0 = 59 then ([], 0, 7)
  else (cut bs (i + 1) (endN bs true true (i + 1)), endN bs true true (i + 1) + 1, 0)
structure RefR where
  a : Nat
  b : Nat
  s : List Int
  deriving Inhabited, DecidableEq
/-- All references from a place on. -/
def refsF (bs : List Int) : Nat → Nat → List RefR
  | 0, _ => []
  | f + 1, i => if i < bs.length then (if (entN bs 38 i).2.2 = 0 then ⟨i, (entN bs 38 i).2.1, (entN bs 38 i).1⟩ :: refsF bs f (entN bs 38 i).2.1 else refsF bs f (i + 1)) else []
def refsA (bs : List Int) (i : Nat) : List RefR := refsF bs (bs.length - i) i
def refsN (bs : List Int) : List RefR := refsA bs 0
theorem entN_off (bs : List Int) (mark : Int) (i : Nat) (h : i = bs.length ∨ ¬ bs.getD i 0 = mark) : entN bs mark i = ([], 0, 7) := if_pos h
theorem entN_err (bs : List Int) (mark : Int) (i : Nat) (hi : i < bs.length) (h : bs.getD i 0 = mark) (h2 : ¬ (readN bs true ((i : Int) + 1)).2.2 = 0) : entN bs mark i = ([], 0, (readN bs true ((i : Int) + 1)).2.2) := by
  unfold entN; rw [if_neg (by rintro (e | e); exact absurd e (by omega); exact e h), if_pos h2]
theorem entN_open (bs : List Int) (mark : Int) (i : Nat) (hi : i < bs.length) (h : bs.getD i 0 = mark) (h2 : (readN bs true ((i : Int) + 1)).2.2 = 0) (h3 : endN bs true true (i + 1) = bs.length ∨ ¬ bs.getD (endN bs true true (i + 1)) 0 = 59) : entN bs mark i = ([], 0, 7) := by
  unfold entN; rw [if_neg (by rintro (e | e); exact absurd e (by omega); exact e h), if_neg (by simp [h2]), if_pos h3]
theorem entN_ok (bs : List Int) (mark : Int) (i : Nat) (hi : i < bs.length) (h : bs.getD i 0 = mark) (h2 : (readN bs true ((i : Int) + 1)).2.2 = 0) (h3 : ¬ (endN bs true true (i + 1) = bs.length ∨ ¬ bs.getD (endN bs true true (i + 1)) 0 = 59)) :
    entN bs mark i = (cut bs (i + 1) (endN bs true true (i + 1)), endN bs true true (i + 1) + 1, 0) := by
  unfold entN; rw [if_neg (by rintro (e | e); exact absurd e (by omega); exact e h), if_neg (by simp [h2]), if_neg h3]
theorem entN_next (bs : List Int) (i : Nat) (hi : i < bs.length) (h : (entN bs 38 i).2.2 = 0) : i + 2 ≤ (entN bs 38 i).2.1 ∧ (entN bs 38 i).2.1 ≤ bs.length ∧ bs.getD i 0 = 38 := by
  unfold entN at h ⊢
  by_cases c1 : i = bs.length ∨ ¬ bs.getD i 0 = 38
  · rw [if_pos c1] at h; simp at h
  · rw [if_neg c1] at h ⊢
    have h38 : bs.getD i 0 = 38 := by
      by_cases e : bs.getD i 0 = 38
      · exact e
      · exact absurd (.inr e) c1
    by_cases c2 : ¬ (readN bs true ((i : Int) + 1)).2.2 = 0
    · rw [if_pos c2] at h; exact absurd h c2
    · rw [if_neg c2] at h ⊢
      by_cases c3 : endN bs true true (i + 1) = bs.length ∨ ¬ bs.getD (endN bs true true (i + 1)) 0 = 59
      · rw [if_pos c3] at h; simp at h
      · rw [if_neg c3]
        have hb := endN_b bs true true (i + 1) (by omega)
        refine ⟨by show i + 2 ≤ endN bs true true (i + 1) + 1; omega, ?_, h38⟩
        show endN bs true true (i + 1) + 1 ≤ bs.length
        have : endN bs true true (i + 1) ≠ bs.length := fun e => c3 (.inl e)
        omega
theorem refsF_fuel (bs : List Int) (f : Nat) : ∀ g i, bs.length - i ≤ f → bs.length - i ≤ g → refsF bs f i = refsF bs g i := by
  induction f with
  | zero =>
    intro g i hf hg
    cases g with
    | zero => rfl
    | succ g => unfold refsF; rw [if_neg (by omega)]
  | succ f ih =>
    intro g i hf hg
    cases g with
    | zero => unfold refsF; rw [if_neg (by omega)]
    | succ g =>
      unfold refsF
      by_cases h : i < bs.length
      · rw [if_pos h, if_pos h]
        by_cases he : (entN bs 38 i).2.2 = 0
        · have := entN_next bs i h he
          rw [if_pos he, if_pos he, ih g _ (by omega) (by omega)]
        · rw [if_neg he, if_neg he, ih g _ (by omega) (by omega)]
      · rw [if_neg h, if_neg h]
theorem refsA_end (bs : List Int) (i : Nat) (h : bs.length ≤ i) : refsA bs i = [] := by
  unfold refsA; rw [show bs.length - i = 0 by omega]; rfl
theorem refsA_yes (bs : List Int) (i : Nat) (hi : i < bs.length) (h : (entN bs 38 i).2.2 = 0) : refsA bs i = ⟨i, (entN bs 38 i).2.1, (entN bs 38 i).1⟩ :: refsA bs (entN bs 38 i).2.1 := by
  have hn := entN_next bs i hi h
  unfold refsA
  rw [refsF_fuel bs (bs.length - i) (bs.length - i - 1 + 1) i (by omega) (by omega)]
  conv => lhs; unfold refsF
  rw [if_pos hi, if_pos h, refsF_fuel bs (bs.length - i - 1) (bs.length - (entN bs 38 i).2.1) _ (by omega) (by omega)]
theorem refsA_no (bs : List Int) (i : Nat) (hi : i < bs.length) (h : ¬ (entN bs 38 i).2.2 = 0) : refsA bs i = refsA bs (i + 1) := by
  unfold refsA
  rw [refsF_fuel bs (bs.length - i) (bs.length - (i + 1) + 1) i (by omega) (by omega)]
  conv => lhs; unfold refsF
  rw [if_pos hi, if_neg h]
/-- Where no mark is, nothing begins. -/
theorem refsA_skip (bs : List Int) (d : Nat) : ∀ i, (∀ j, i ≤ j → j < i + d → j < bs.length → ¬ bs.getD j 0 = 38) → refsA bs i = refsA bs (i + d) := by
  induction d with
  | zero => exact fun _ _ => rfl
  | succ d ih =>
    intro i h
    by_cases hi : i < bs.length
    · have h0 := h i (Nat.le_refl _) (by omega) hi
      rw [refsA_no bs i hi (by rw [entN_off bs 38 i (.inr h0)]; simp), ih (i + 1) fun j h1 h2 h3 => h j (by omega) (by omega) h3]
      rw [show i + 1 + d = i + (d + 1) by omega]
    · rw [refsA_end bs i (by omega), refsA_end bs (i + (d + 1)) (by omega)]
theorem refsF_len (bs : List Int) (f : Nat) : ∀ i, (refsF bs f i).length ≤ f := by
  induction f with
  | zero => exact fun _ => Nat.le_refl _
  | succ f ih =>
    intro i
    unfold refsF
    split
    · split
      · simp; exact ih _
      · have := ih (i + 1); omega
    · simp
theorem refsN_len (bs : List Int) : (refsN bs).length ≤ bs.length := by have := refsF_len bs (bs.length - 0) 0; exact this
end Go.Proofs.YtkeclfhhilphpaaDoor.RefPlain
