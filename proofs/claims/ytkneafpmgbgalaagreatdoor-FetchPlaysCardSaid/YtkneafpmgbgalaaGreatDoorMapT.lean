/- A map from texts to numbers, of the call's own, that counts texts. -/
import Derived.Test.YtkneafpmgbgalaaGreatDoorBel
import Derived.Test.YtkneafpmgbgalaaGreatDoorProg
import Derived.Below
import Derived.WalkKit
import Derived.Maps.Own
import Derived.Maps.OwnOps
import Derived.Maps.OwnSet
import Derived.Maps.Views
import Derived.WideShapes
import Derived.Lib.Hide
namespace Go.Proofs.YtkneafpmgbgalaaGreatDoor
open Go.RowKit Go.Maps
set_option linter.unusedVariables false
def cntM (l : List ByteArray) (x : ByteArray) : Nat := (l.filter fun y => decide (y = x)).length
theorem cntM_same (l : List ByteArray) (x : ByteArray) : cntM (l ++ [x]) x = cntM l x + 1 := by simp [cntM]
theorem cntM_other (l : List ByteArray) (x y : ByteArray) (h : ¬ y = x) : cntM (l ++ [y]) x = cntM l x := by simp [cntM, h]
theorem cntM_le (l : List ByteArray) (x : ByteArray) : cntM l x ≤ l.length := List.length_filter_le _ _
theorem cntM_zero {l : List ByteArray} {x : ByteArray} : cntM l x = 0 ↔ ∀ y ∈ l, y ≠ x := by
  unfold cntM
  rw [List.length_eq_zero_iff, List.filter_eq_nil_iff]
  simp
def KeyM (D : DataW Unit) (l : List ByteArray) : Prop := ∀ y : ByteArray, D.atKey (.string y.data.toList) (.lit (.int .i64 0)) = .lit (.int .i64 (cntM l y))
theorem KeyM_nil : KeyM (.map []) [] := fun y => rfl
theorem KeyM_put {D : DataW Unit} {l : List ByteArray} {x : ByteArray} (h : KeyM D l) (hm : IsMap D) : KeyM (D.put (.string x.data.toList) (.lit (.int .i64 ((cntM l x : Int) + 1)))) (l ++ [x]) := by
  intro y
  by_cases hyx : x = y
  · subst hyx; rw [atKey_put_same hm (show WideAt.IsKeyLit (.string x.data.toList) from trivial), cntM_same]; rfl
  · rw [atKey_put_other (fun e => hyx ?_), h y, cntM_other _ _ _ hyx]
    exact (Go.WideShapes.bytes_inj (Lit.string.inj e)).symm
theorem mapM_below {w w' : World} {P : Program} {k : TypeId} {R : Value → Option (DataW Unit × List MemPlace)} {b n : Nat} {D : DataW Unit} (h : w.ownsMap P k R b n D) (hb : Below w.heap.size w w') : w'.ownsMap P k R b n D := by
  have hlt := h.lt
  obtain ⟨es, clock, h1, r⟩ := h
  exact ⟨es, clock, (hb.block b hlt).trans h1, r⟩
theorem mapM_not_row {w : World} {P : Program} {k : TypeId} {R : Value → Option (DataW Unit × List MemPlace)} {b m base size n : Nat} {D : DataW Unit} {e : TypeId} {v : Value} {xs : List Value} (h : w.ownsMap P k R b m D) (hr : w.ownsRow base e size v n xs) : some b ≠ v.ownBlock := by
  obtain ⟨es, clock, h1, _⟩ := h
  intro e'
  rcases hr.2 with ⟨rfl, _⟩ | ⟨g, cap, cur, rfl, _, hh, _⟩
  · cases e'
  · obtain rfl : b = g := by simpa [Value.ownBlock] using e'
    rw [h1] at hh; cases hh
theorem mapM_not_cells {w : World} {P : Program} {k : TypeId} {R : Value → Option (DataW Unit × List MemPlace)} {b m g : Nat} {D : DataW Unit} {cs : Array Value} {t : TypeId} {f : Nat × Nat} (h : w.ownsMap P k R b m D) (hr : w.heap[g]? = some (.cells cs t f)) : b ≠ g := by
  obtain ⟨es, clock, h1, _⟩ := h
  rintro rfl
  rw [h1] at hr; cases hr
theorem litIntM {a b : Int} (h : (DataW.lit (.int .i64 a) : DataW Unit) = .lit (.int .i64 b)) : a = b := by cases h; rfl
theorem lawM : Keyed Tryz.prog 9 := string_keyed Tryz.underlying9
theorem zeroM (w : World) : (zeroValue 3).run Tryz.prog w = .ok (.int .i64 0) w := by kernel_rfl
end Go.Proofs.YtkneafpmgbgalaaGreatDoor
