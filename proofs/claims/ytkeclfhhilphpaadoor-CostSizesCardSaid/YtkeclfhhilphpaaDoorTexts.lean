/- Rows of texts held against each other: narthexref15.Texts. Conditions: none. -/
import Derived.Test.YtkeclfhhilphpaaDoorStrEq
import Derived.Below
import Derived.OwnWalk
import Derived.Lib.Hide
import Derived.Outline
import Derived.Deep.QuietTactic
import Derived.BigQuiet
namespace Go.Proofs.YtkeclfhhilphpaaDoor
open Go.RowKit
theorem addBlockT (a : Addr) (n : Nat) : (a.add n).block = a.block := by unfold Addr.add; split <;> rfl
def txtCells (l : List ByteArray) : List Value := l.map Value.string
def RetD (b : Bool) (w : World) (e : Ending) (w' : World) : Prop := e = .returned (.bool b) ∧ ∃ d, w' = w.drewN d
/-- A row of strings. -/
def TsAt (w : World) (A : Option Addr) (n : Nat) (xs : List ByteArray) : Prop :=
  xs.length = n ∧ ∀ k, k < n → ∃ a s, A = some a ∧ xs[k]? = some s ∧ a.block < w.heap.size ∧ w.cell? (a.add k) = some (.string s)
theorem TsAt.below {w w' : World} {A : Option Addr} {n : Nat} {xs : List ByteArray} (h : TsAt w A n xs) (hb : Below w.heap.size w w') : TsAt w' A n xs :=
  ⟨h.1, fun k hk => by
    obtain ⟨a, s, h1, h2, h3, h4⟩ := h.2 k hk
    exact ⟨a, s, h1, h2, Nat.lt_of_lt_of_le h3 hb.size, (hb.cell (by rw [addBlockT]; exact h3)).trans h4⟩⟩
theorem TsAt.of_own {w : World} {base : Nat} {e : TypeId} {A : Option Addr} {c : Nat} {xs : List ByteArray} (h : w.ownsRow base e 1 (.slice A xs.length c) xs.length (txtCells xs)) : TsAt w A xs.length xs := by
  refine ⟨rfl, fun k hk => ?_⟩
  rcases h.2 with ⟨_, h2⟩ | ⟨g, cap, cur, hv, hg, hh, _⟩
  · omega
  · cases hv
    refine ⟨⟨g, 0, none⟩, xs[k], rfl, List.getElem?_eq_getElem hk, ?_, ?_⟩
    · exact (h.lt g rfl).2
    · exact h.cells rfl k _ (by unfold txtCells; rw [List.getElem?_map, List.getElem?_eq_getElem hk]; rfl)
theorem takesEqT {α : Type} {l m : List α} {k : Nat} {x : α} (h : l.take k = m.take k) (hx : l[k]? = some x) (hy : m[k]? = some x) : l.take (k + 1) = m.take (k + 1) := by
  rw [List.take_add_one, List.take_add_one, h, hx, hy]
theorem strT_no {a b : ByteArray} (h : ¬ a = b) : (a.toList == b.toList) = false := sL_no h
end Go.Proofs.YtkeclfhhilphpaaDoor
