/- The contracts of the reference of layer 2 (narthexref02) on one character. Conditions: bytes read as numbers from 0 to 255. -/
import Derived.Test.YtkneafpmgbgalaaGreatDoorBel
import Derived.Test.YtkneafpmgbgalaaGreatDoorPlainA
import Derived.Test.YtkneafpmgbgalaaGreatDoorCharsRef
import Derived.Below
import Derived.Maps.AppendAt
namespace Go.Proofs.YtkneafpmgbgalaaGreatDoor
open Go.RowKit Go.Proofs.YtkneafpmgbgalaaGreatDoor.UtfPlain
/-- A slice value's places, as far as its length, read as the bytes. -/
def BytesAt (w : World) (A : Option Addr) (n : Nat) (xs : List Int) : Prop :=
  xs.length = n ∧ ∀ k, k < n → ∃ a x, A = some a ∧ xs[k]? = some x ∧ 0 ≤ x ∧ x ≤ 255 ∧ a.block < w.heap.size ∧ w.cell? (a.add k) = some (.int .u8 x)
theorem BytesAt.below {w w' : World} {A : Option Addr} {n : Nat} {xs : List Int} (h : BytesAt w A n xs) (hb : Below w.heap.size w w') : BytesAt w' A n xs :=
  ⟨h.1, fun k hk => by
    obtain ⟨a, x, h1, h2, h3, h4, h5, h6⟩ := h.2 k hk
    exact ⟨a, x, h1, h2, h3, h4, Nat.lt_of_lt_of_le h5 hb.size, (hb.cell (p := a.add k) (by rw [addBlock]; exact h5)).trans h6⟩⟩
theorem BytesAt.drewN {w : World} {A : Option Addr} {n : Nat} {xs : List Int} (h : BytesAt w A n xs) (m : Nat) : BytesAt (w.drewN m) A n xs := h
/-- The bytes as cells. -/
def byteCells (xs : List Int) : List Value := xs.map (Value.int .u8)
theorem BytesAt.of_own {w : World} {base : Nat} {e : TypeId} {A : Option Addr} {c : Nat} {xs : List Int} (h : w.ownsRow base e 1 (.slice A xs.length c) xs.length (byteCells xs)) (hx : ∀ x ∈ xs, 0 ≤ x ∧ x ≤ 255) : BytesAt w A xs.length xs := by
  refine ⟨rfl, fun k hk => ?_⟩
  rcases h.2 with ⟨h2, h3⟩ | ⟨g, cap, cur, hv, _, hh, _⟩
  · omega
  · injection hv with hv1 hv2 hv3
    subst hv1
    have hb := hx xs[k] (List.getElem_mem _)
    refine ⟨_, xs[k], rfl, List.getElem?_eq_getElem hk, hb.1, hb.2, (h.lt g rfl).2, ?_⟩
    refine h.cells (g := g) rfl k _ ?_
    unfold byteCells; rw [List.getElem?_map, List.getElem?_eq_getElem hk]; rfl
/-- What a call that makes a row of bytes gives. -/
def MadeBytes (xs : List Int) (w : World) (e : Ending) (w' : World) : Prop :=
  ∃ A c, e = .returned (.slice A xs.length c) ∧ w'.ownsRow w.heap.size 5 1 (.slice A xs.length c) xs.length (byteCells xs) ∧ Below w.heap.size w w'
theorem madeBytes_lit (xs : List Int) (w : World) (hl : xs.length ≤ 4) : MadeBytes xs w (.returned (.slice (some ⟨w.heap.size, 0, none⟩) xs.length xs.length)) (w.alloc (.cells (byteCells xs).toArray 5)) := by
  refine ⟨_, _, rfl, ?_, (Below.refl _ _).alloc (Nat.le_refl _) _⟩
  have h := World.ownsRow_lit (base := w.heap.size) (e := 5) (size := 1) w (byteCells xs).toArray xs.length (Nat.le_refl _) (by unfold maxLen; omega) (by simp [byteCells])
  simpa using h
end Go.Proofs.YtkneafpmgbgalaaGreatDoor
