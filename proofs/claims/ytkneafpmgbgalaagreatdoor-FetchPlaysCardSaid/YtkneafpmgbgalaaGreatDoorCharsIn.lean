/- The contracts of chars.in and of the search that it calls: is a number in one of a table's runs. Conditions: the runs rise, and the table's cells read as them. -/
import Derived.Test.YtkneafpmgbgalaaGreatDoorCharsRef
import Derived.Deep.QuietTactic
import Derived.BigQuiet
import Derived.Shelf.Abstract
import Derived.Below
namespace Go.Proofs.YtkneafpmgbgalaaGreatDoor
open Go.RowKit Go.Shelf Go.Proofs.YtkneafpmgbgalaaGreatDoor.CharsPlain
/-- The runs of a table: at its places stand each run's first and last number. -/
def RunsAt (w : World) (b : Nat) (rs : List (Int × Int)) : Prop :=
  ∀ k, k < rs.length → ∃ x y, rs[k]? = some (x, y) ∧ w.cell? ⟨b, k * 2, none⟩ = some (.int .i64 x) ∧ w.cell? ⟨b, k * 2 + 1, none⟩ = some (.int .i64 y)
def inRuns (rs : List (Int × Int)) (r : Int) : Bool := rs.any fun x => decide (x.1 ≤ r) && decide (r ≤ x.2)
def Rising (rs : List (Int × Int)) : Prop := rs.Pairwise (fun x y => x.2 < y.1) ∧ ∀ x ∈ rs, x.1 ≤ x.2
theorem rising_lt {rs : List (Int × Int)} (h : Rising rs) {j k : Nat} {x y : Int × Int} (hj : rs[j]? = some x) (hk : rs[k]? = some y) (hjk : j < k) : x.2 < y.1 := by
  obtain ⟨h1, e1⟩ := List.getElem?_eq_some_iff.1 hj
  obtain ⟨h2, e2⟩ := List.getElem?_eq_some_iff.1 hk
  have := List.pairwise_iff_getElem.1 h.1 j k h1 h2 hjk
  rw [e1, e2] at this; exact this
theorem rising_le {rs : List (Int × Int)} (h : Rising rs) {j : Nat} {x : Int × Int} (hj : rs[j]? = some x) : x.1 ≤ x.2 := h.2 x (List.mem_of_getElem? hj)
theorem in_iff {rs : List (Int × Int)} {r : Int} : inRuns rs r = true ↔ ∃ (k : Nat) (x : Int × Int), rs[k]? = some x ∧ x.1 ≤ r ∧ r ≤ x.2 := by
  unfold inRuns
  rw [List.any_eq_true]
  constructor
  · rintro ⟨x, hx, h⟩
    obtain ⟨k, hk⟩ := List.getElem?_of_mem hx
    simp at h
    exact ⟨k, x, hk, h.1, h.2⟩
  · rintro ⟨k, x, hk, h1, h2⟩
    exact ⟨x, List.mem_of_getElem? hk, by simp [h1, h2]⟩
/-- What the search's place says. -/
theorem in_at {rs : List (Int × Int)} (h : Rising rs) (r : Int) (i : Nat) (z : Int × Int) (hz : rs[i]? = some z) (h1 : i = 0 ∨ ∀ x, rs[i - 1]? = some x → x.2 < r) (h2 : r ≤ z.2) :
    inRuns rs r = decide (z.1 ≤ r) := by
  rw [Bool.eq_iff_iff, in_iff]
  simp only [decide_eq_true_eq]
  constructor
  · rintro ⟨k, x, hk, hx1, hx2⟩
    rcases Nat.lt_trichotomy k i with hlt | rfl | hgt
    · exfalso
      rcases h1 with rfl | h1
      · omega
      · by_cases e : k = i - 1
        · subst e; have := h1 x hk; omega
        · have hy : i - 1 < rs.length := by have := (List.getElem?_eq_some_iff.1 hz).1; omega
          have := rising_lt h hk (List.getElem?_eq_getElem hy) (by omega)
          have h3 := rising_le h (List.getElem?_eq_getElem hy)
          have h4 := h1 _ (List.getElem?_eq_getElem hy)
          omega
    · rw [hk] at hz; cases hz; exact hx1
    · have := rising_lt h hz hk hgt; omega
  · intro h3; exact ⟨i, z, hz, h3, h2⟩
theorem in_end {rs : List (Int × Int)} (h : Rising rs) (r : Int) (h1 : rs.length = 0 ∨ ∀ x, rs[rs.length - 1]? = some x → x.2 < r) : inRuns rs r = false := by
  rw [Bool.eq_false_iff]
  intro hin
  obtain ⟨k, x, hk, hx1, hx2⟩ := in_iff.1 hin
  have hl := (List.getElem?_eq_some_iff.1 hk).1
  rcases h1 with h1 | h1
  · omega
  · by_cases e : k = rs.length - 1
    · subst e; have := h1 x hk; omega
    · have hy : rs.length - 1 < rs.length := by omega
      have := rising_lt h hk (List.getElem?_eq_getElem hy) (by omega)
      have h3 := rising_le h (List.getElem?_eq_getElem hy)
      have h4 := h1 _ (List.getElem?_eq_getElem hy)
      omega

/-- The world behind the two boxes. -/
theorem two_boxes (w : World) (o p : Value) (s t : TypeId) : ∃ W, W = ((w.alloc (.cells #[o] s)).alloc (.cells #[p] t)) ∧ W.cell? ⟨w.heap.size, 0, none⟩ = some o ∧ W.cell? ⟨w.heap.size + 1, 0, none⟩ = some p ∧ Below w.heap.size w W := by
  refine ⟨_, rfl, ?_, ?_, ((Below.refl _ _).alloc (Nat.le_refl _) _).alloc (by simp) _⟩
  · go_simp
  · go_simp
end Go.Proofs.YtkneafpmgbgalaaGreatDoor
