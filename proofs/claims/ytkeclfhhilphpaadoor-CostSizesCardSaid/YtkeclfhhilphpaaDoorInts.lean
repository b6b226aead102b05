/- Rows of numbers, held against each other: narthexref02.Ints. Conditions: none. -/
import Derived.Test.YtkeclfhhilphpaaDoorTexts
namespace Go.Proofs.YtkeclfhhilphpaaDoor
open Go.RowKit
theorem num_no {a b : Int} (h : ¬ a = b) : (a != b) = true := by simpa using h
theorem takesEq {α : Type} {l m : List α} {k : Nat} {x : α} (h : l.take k = m.take k) (hx : l[k]? = some x) (hy : m[k]? = some x) : l.take (k + 1) = m.take (k + 1) := takesEqT h hx hy
def IntsAt (w : World) (A : Option Addr) (n : Nat) (xs : List Int) : Prop :=
  xs.length = n ∧ ∀ k, k < n → ∃ a x, A = some a ∧ xs[k]? = some x ∧ a.block < w.heap.size ∧ w.cell? (a.add k) = some (.int .i64 x)
theorem IntsAt.below {w w' : World} {A : Option Addr} {n : Nat} {xs : List Int} (h : IntsAt w A n xs) (hb : Below w.heap.size w w') : IntsAt w' A n xs :=
  ⟨h.1, fun k hk => by
    obtain ⟨a, s, h1, h2, h3, h4⟩ := h.2 k hk
    exact ⟨a, s, h1, h2, Nat.lt_of_lt_of_le h3 hb.size, (hb.cell (by rw [addBlockT]; exact h3)).trans h4⟩⟩
def numCells (l : List Int) : List Value := l.map (Value.int .i64)
theorem IntsAt.of_own {w : World} {base : Nat} {e : TypeId} {A : Option Addr} {c : Nat} {xs : List Int} (h : w.ownsRow base e 1 (.slice A xs.length c) xs.length (numCells xs)) : IntsAt w A xs.length xs := by
  refine ⟨rfl, fun k hk => ?_⟩
  rcases h.2 with ⟨_, h2⟩ | ⟨g, cap, cur, hv, hg, hh, _⟩
  · omega
  · cases hv
    refine ⟨⟨g, 0, none⟩, xs[k], rfl, List.getElem?_eq_getElem hk, ?_, ?_⟩
    · exact (h.lt g rfl).2
    · exact h.cells rfl k _ (by unfold numCells; rw [List.getElem?_map, List.getElem?_eq_getElem hk]; rfl)
end Go.Proofs.YtkeclfhhilphpaaDoor
