/- The contract of refs.Names, a range over the iterator that collects; the page's example. Conditions: the tables of chars and of utf hold what the text gives them. -/
import Derived.Test.YtkeclfhhilphpaaDoorRefEach
import Derived.Test.YtkeclfhhilphpaaDoorTexts
import Derived.Maps.AppendAt
namespace Go.Proofs.YtkeclfhhilphpaaDoor
open Go.RowKit Go.Shelf Go.Proofs.YtkeclfhhilphpaaDoor.UtfPlain Go.Proofs.YtkeclfhhilphpaaDoor.CharsPlain Go.Proofs.YtkeclfhhilphpaaDoor.NamePlain Go.Proofs.YtkeclfhhilphpaaDoor.RefPlain
attribute [local go_sem] Oper.semAt_some
theorem boxed_keepR {X Y : World} {row : Option Nat} {B : Nat} {t : TypeId} {v : Value} (h : Boxed X B t v) (hg : X.grownBy Y row) (hr : ∀ r, row = some r → ∃ o : Obj, X.heap[r]? = some o ∧ o.isCells = false) : Boxed Y B t v := by
  refine h.kept hg (fun e => ?_)
  obtain ⟨o, ho, hc⟩ := hr B e.symm
  rw [show X.heap[B]? = _ from h] at ho; cases ho; cases hc
theorem row_keepR {X Y : World} {row : Option Nat} {base size k : Nat} {e : TypeId} {v : Value} {xs : List Value} (h : X.ownsRow base e size v k xs) (hg : X.grownBy Y row) (hr : ∀ r, row = some r → ∃ o : Obj, X.heap[r]? = some o ∧ o.isCells = false) : Y.ownsRow base e size v k xs := by
  refine h.kept hg ?_
  rcases h.2 with ⟨rfl, _⟩ | ⟨g, cap, cur, rfl, _, hgb, _⟩
  · exact .inl rfl
  · refine .inr fun e' => ?_
    obtain ⟨o, ho, hc⟩ := hr g (by simpa [Value.ownBlock] using e'.symm)
    rw [hgb] at ho; cases ho; cases hc
theorem KpR_grow {n₀ base size k : Nat} {W w1 : World} {e : TypeId} {v : Value} {xs : List Value} (hrow : W.ownsRow base e size v k xs) (hg : W.grownBy w1 v.ownBlock) (hb : n₀ ≤ base) (hW : n₀ ≤ W.heap.size) : KpR n₀ W w1 := by
  refine ⟨(Below.refl n₀ W).grown hg hW (fun g h => Nat.le_trans hb (hrow.lt g h).1), fun i cur t fz hz hi => ?_⟩
  have hlt : i < W.heap.size := by rcases Nat.lt_or_ge i W.heap.size with h' | h'; exact h'; rw [Array.getElem?_eq_none h'] at hi; cases hi
  rw [hg.block i hlt ?_]
  · exact hi
  · intro heq
    rcases hrow.2 with ⟨rfl, _⟩ | ⟨g, cap, cur', rfl, _, hh, _⟩
    · cases heq
    · cases heq; rw [hi] at hh; cases hh; exact hz rfl
theorem KpR_box {n₀ B : Nat} {W : World} {t : TypeId} {u v : Value} (h : Boxed W B t v) (hB : n₀ ≤ B) : KpR n₀ W (W.setCell ⟨B, 0, none⟩ u) := by
  refine ⟨(Below.refl _ _).setCell (p := ⟨B, 0, none⟩) hB _, fun i cur t' fz hz hi => ?_⟩
  by_cases e : i = B
  · subst e; rw [show W.heap[i]? = _ from h] at hi; cases hi; exact absurd rfl hz
  · rw [Below.heap_setCell W ⟨B, 0, none⟩ u i e]; exact hi
theorem own_shapeR {w : World} {base size n : Nat} {e : TypeId} {v : Value} {xs : List Value} (h : w.ownsRow base e size v n xs) : ∃ A c, v = .slice A n c := by
  rcases h.2 with ⟨h1, h2⟩ | ⟨g, cap, _, h1, _⟩
  · subst h2; exact ⟨_, _, h1⟩
  · exact ⟨_, _, h1⟩
theorem Tryd.infoStrR : (Tryd.prog.info? 9).map (fun i => (i.zero, i.size, i.bytes)) = some (some (.string ⟨#[]⟩), 1, 16) := by kernel_rfl
def nameCells (l : List RefR) : List Value := l.map fun x => .string (strOfNums x.s)
end Go.Proofs.YtkeclfhhilphpaaDoor
