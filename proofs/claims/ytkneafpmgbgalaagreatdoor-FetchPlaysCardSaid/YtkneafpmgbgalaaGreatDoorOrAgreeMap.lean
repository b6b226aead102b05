/- A map from texts to values, of the call's own, with its values as they are. -/
import Derived.Test.YtkneafpmgbgalaaGreatDoorBel
import Derived.Test.YtkneafpmgbgalaaGreatDoorProg
import Derived.Below
import Derived.WalkKit
import Derived.Maps.Own
import Derived.Maps.OwnSet
import Derived.Maps.Views
import Derived.WideShapes
import Derived.Lib.Hide
namespace Go.Proofs.YtkneafpmgbgalaaGreatDoor
open Go.RowKit Go.Maps
set_option linter.unusedVariables false
def heldV (v : Value) : Option (DataW Value × List MemPlace) := some (.held v, [])
theorem lawV : Keyed Tryz.prog 9 := string_keyed Tryz.underlying9
theorem mapV_below {w w' : World} {P : Program} {k : TypeId} {R : Value → Option (DataW Value × List MemPlace)} {b n : Nat} {D : DataW Value} (h : w.ownsMap P k R b n D) (hb : Below w.heap.size w w') : w'.ownsMap P k R b n D := by
  have hlt := h.lt
  obtain ⟨es, clock, h1, r⟩ := h
  exact ⟨es, clock, (hb.block b hlt).trans h1, r⟩
theorem mapV_not_cells {w : World} {P : Program} {k : TypeId} {R : Value → Option (DataW Value × List MemPlace)} {b m g : Nat} {D : DataW Value} {cs : Array Value} {t : TypeId} {f : Nat × Nat} (h : w.ownsMap P k R b m D) (hr : w.heap[g]? = some (.cells cs t f)) : b ≠ g := by
  obtain ⟨es, clock, h1, _⟩ := h
  rintro rfl
  rw [h1] at hr; cases hr
theorem cell_not_map {w : World} {b : Nat} {es : Array MapEntry} {clock : Nat} {a : Addr} {v : Value} (h : w.heap[b]? = some (.map es clock)) (hc : w.cell? a = some v) : a.block ≠ b := by
  rintro rfl
  simp [World.cell?, h] at hc
theorem heldV_inv {v : Value} {y : DataW Value × List MemPlace} (h : heldV v = some y) : y = (.held v, []) := by unfold heldV at h; injection h with h; exact h.symm
theorem keyS_inv {key : Value} {kl : Lit} (h : keyOf Tryz.prog 9 key = some kl) : ∃ s : ByteArray, key = .string s ∧ kl = .string s.data.toList ∧ s.size ≤ maxLen := WideMaps.string_of_keyOf Tryz.underlying9 h
end Go.Proofs.YtkneafpmgbgalaaGreatDoor
