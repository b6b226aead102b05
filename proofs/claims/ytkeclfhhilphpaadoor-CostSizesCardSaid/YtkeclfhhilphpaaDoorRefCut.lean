/- The contract of refs.Cut, a range over the iterator that cuts (printed by gen-refcut.py). Conditions: the tables of chars and of utf hold what the text gives them. -/
import Derived.Test.YtkeclfhhilphpaaDoorRefNames
import Derived.Test.YtkeclfhhilphpaaDoorRefAll
import Derived.Test.YtkeclfhhilphpaaDoorRefCutPlain
import Derived.Test.YtkeclfhhilphpaaDoorRegions
import Derived.Maps.AppendAt
import Derived.Deep.DrawnRows
namespace Go.Proofs.YtkeclfhhilphpaaDoor
open Go.RowKit Go.Shelf Go.Proofs.YtkeclfhhilphpaaDoor.UtfPlain Go.Proofs.YtkeclfhhilphpaaDoor.CharsPlain Go.Proofs.YtkeclfhhilphpaaDoor.NamePlain Go.Proofs.YtkeclfhhilphpaaDoor.RefPlain
attribute [local go_sem] Oper.semAt_some
theorem boxed_below {X Y : World} {B : Nat} {t : TypeId} {v : Value} (h : Boxed X B t v) (hb : Below X.heap.size X Y) : Boxed Y B t v := (hb.block B h.lt).trans h
theorem boxed_putR {X : World} {B l : Nat} {t : TypeId} {v : Value} {o o' : Obj} (h : Boxed X B t v) (hl : X.heap[l]? = some o) (hc : o.isCells = false) : Boxed (X.putObj l o') B t v := by
  refine (World.putObj_heap_other (fun e => ?_)).trans h
  subst e
  rw [show X.heap[B]? = _ from h] at hl; cases hl; cases hc
theorem below_putR {n : Nat} {w X : World} {l : Nat} {o' : Obj} (h : Below n w X) (hn : n ≤ X.heap.size) (hl : n ≤ l) : Below n w (X.putObj l o') := h.trans ((Below.refl n X).grown (grownBy_putObj' X l o') hn (fun k e => by cases e; omega))
theorem KpR_drew (n : Nat) (W : World) : KpR n W W.drew := ⟨⟨rfl, rfl, rfl, Nat.le_refl _, fun _ _ => rfl⟩, fun _ _ _ _ _ h => h⟩
theorem ref_grown {X Y : World} {b base size k : Nat} {cs : Array Value} {t e : TypeId} {v : Value} {xs : List Value} (h : X.heap[b]? = some (.cells cs t (0, 0))) (hte : t ≠ e) (hr : X.ownsRow base e size v k xs) (hg : X.grownBy Y v.ownBlock) : Y.heap[b]? = some (.cells cs t (0, 0)) := by
  refine (hg.block b (Array.getElem?_eq_some_iff.1 h).1 (fun e' => ?_)).trans h
  rcases hr.2 with ⟨rfl, _⟩ | ⟨g, cap, cur, rfl, _, hh, _⟩
  · cases e'
  · obtain rfl : b = g := by simpa [Value.ownBlock] using e'
    rw [h] at hh; cases hh; exact hte rfl
theorem own_lower {w : World} {base base' : Nat} {e : TypeId} {size : Nat} {v : Value} {n : Nat} {xs : List Value} (h : w.ownsRow base e size v n xs) (hb : base' ≤ base) : w.ownsRow base' e size v n xs := by
  refine ⟨h.1, ?_⟩
  rcases h.2 with h2 | ⟨g, cap, cur, hv, hg, r⟩
  · exact .inl h2
  · exact .inr ⟨g, cap, cur, hv, Nat.le_trans hb hg, r⟩
theorem txtCells_snoc (l : List ByteArray) (x : ByteArray) : txtCells (l ++ [x]) = txtCells l ++ [.string x] := by simp [txtCells]
end Go.Proofs.YtkeclfhhilphpaaDoor
