/- A block of two cells; two rows of the call's own, apart by their element types. Nothing of the program. -/
import Derived.Test.YtapjmfgpdkghlaaDoorProg
import Derived.WalkKit
import Derived.Below
import Derived.OwnWalk
import Derived.OneCell
import Derived.Laws.OwnMore
import Derived.RangeFuncBox
import Derived.RangeFuncNested
namespace Go.Proofs.YtapjmfgpdkghlaaDoor
open Go.RowKit
def Box2 (w : World) (b : Nat) (t : TypeId) (u v : Value) : Prop := w.heap[b]? = some (.cells #[u, v] t (0, 0))
theorem Box2.lt {w : World} {b : Nat} {t : TypeId} {u v : Value} (h : Box2 w b t u v) : b < w.heap.size := (Array.getElem?_eq_some_iff.1 h).1
theorem Box2.cell0 {w : World} {b : Nat} {t : TypeId} {u v : Value} (h : Box2 w b t u v) : w.cell? ⟨b, 0, none⟩ = some u := by simp [World.cell?, show w.heap[b]? = _ from h]
theorem Box2.cell1 {w : World} {b : Nat} {t : TypeId} {u v : Value} (h : Box2 w b t u v) : w.cell? ⟨b, 1, none⟩ = some v := by simp [World.cell?, show w.heap[b]? = _ from h]
theorem Box2.frozen0 {w : World} {b : Nat} {t : TypeId} {u v : Value} (h : Box2 w b t u v) : w.frozen? ⟨b, 0, none⟩ = false := by simp [World.frozen?, show w.heap[b]? = _ from h]
theorem Box2.frozen1 {w : World} {b : Nat} {t : TypeId} {u v : Value} (h : Box2 w b t u v) : w.frozen? ⟨b, 1, none⟩ = false := by simp [World.frozen?, show w.heap[b]? = _ from h]
theorem Box2.new (w : World) (t : TypeId) (u v : Value) : Box2 (w.alloc (.cells #[u, v] t)) w.heap.size t u v := World.alloc_heap_new w _
theorem Box2.kept {w w' : World} {row : Option Nat} {b : Nat} {t : TypeId} {u v : Value} (h : Box2 w b t u v) (hg : w.grownBy w' row) (hne : some b ≠ row) : Box2 w' b t u v := (hg.block b h.lt hne).trans h
theorem Box2.alloc {w : World} {b : Nat} {t : TypeId} {u v : Value} (h : Box2 w b t u v) (o : Obj) : Box2 (w.alloc o) b t u v := h.kept (World.grownBy_alloc w o none) (by simp)
theorem Box2.below {w w' : World} {b : Nat} {t : TypeId} {u v : Value} (h : Box2 w b t u v) (hb : Below w.heap.size w w') : Box2 w' b t u v := (hb.block b h.lt).trans h
theorem Box2.drew {w : World} {b : Nat} {t : TypeId} {u v : Value} (h : Box2 w b t u v) : Box2 w.drew b t u v := h
theorem grownBy_setAny (W : World) (p : Addr) (v : Value) : W.grownBy (W.setCell p v) (some p.block) :=
  ⟨rfl, rfl, rfl, (KeepsWalks.setCell W _ v).size, fun k _ hk => Below.heap_setCell _ _ _ k (fun e => hk (by rw [e]))⟩
theorem Box2.other {w : World} {b : Nat} {t : TypeId} {u v : Value} (h : Box2 w b t u v) {p : Addr} (hne : b ≠ p.block) (x : Value) : Box2 (w.setCell p x) b t u v := h.kept (grownBy_setAny w p x) (fun e => hne (by cases e; rfl))
theorem Box2.set0 {w : World} {b : Nat} {t : TypeId} {u v : Value} (x : Value) (h : Box2 w b t u v) : Box2 (w.setCell ⟨b, 0, none⟩ x) b t x v := by
  obtain ⟨hlt, hk⟩ := Array.getElem?_eq_some_iff.1 h
  show (w.heap.modify b _)[b]? = _
  rw [Array.getElem?_eq_getElem (by rw [Array.size_modify]; exact hlt), Array.getElem_modify_self, hk]
  rfl
theorem Box2.set1 {w : World} {b : Nat} {t : TypeId} {u v : Value} (x : Value) (h : Box2 w b t u v) : Box2 (w.setCell ⟨b, 1, none⟩ x) b t u x := by
  obtain ⟨hlt, hk⟩ := Array.getElem?_eq_some_iff.1 h
  show (w.heap.modify b _)[b]? = _
  rw [Array.getElem?_eq_getElem (by rw [Array.size_modify]; exact hlt), Array.getElem_modify_self, hk]
  rfl
/-- Two rows of different element types lie in different blocks. -/
theorem rows_apart {w : World} {b1 b2 s1 s2 n1 n2 : Nat} {e1 e2 : TypeId} {v1 v2 : Value} {x1 x2 : List Value} (h1 : w.ownsRow b1 e1 s1 v1 n1 x1) (h2 : w.ownsRow b2 e2 s2 v2 n2 x2) (he : e1 ≠ e2) : v1.ownBlock = none ∨ v1.ownBlock ≠ v2.ownBlock := by
  rcases h1.2 with ⟨rfl, _⟩ | ⟨g, cap, cur, rfl, _, hh, _⟩
  · exact .inl rfl
  · rcases h2.2 with ⟨rfl, _⟩ | ⟨g', cap', cur', rfl, _, hh', _⟩
    · exact .inr (fun e => by cases e)
    · refine .inr fun e => he ?_
      have e : g = g' := by simpa [Value.ownBlock] using e
      subst e
      rw [hh] at hh'
      cases hh'; rfl
theorem Box2.not_row {w : World} {b : Nat} {t e : TypeId} {u v : Value} (h : Box2 w b t u v) (hte : t ≠ e) {base size k : Nat} {x : Value} {xs : List Value} (hr : w.ownsRow base e size x k xs) : some b ≠ x.ownBlock := by
  rcases hr.2 with ⟨rfl, _⟩ | ⟨g, cap, cur, rfl, _, hh, _⟩
  · intro e; cases e
  · intro e'
    have e' : b = g := by simpa [Value.ownBlock] using e'
    subst e'
    rw [show w.heap[b]? = _ from h] at hh
    cases hh; exact hte rfl
end Go.Proofs.YtapjmfgpdkghlaaDoor
