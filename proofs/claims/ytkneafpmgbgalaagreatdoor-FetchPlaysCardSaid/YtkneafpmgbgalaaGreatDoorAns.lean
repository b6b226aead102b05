/- Answers in memory, as the walks read them. -/
import Derived.Test.YtkneafpmgbgalaaGreatDoorBel
import Derived.Test.YtkneafpmgbgalaaGreatDoorUtfRef
import Derived.Below
import Derived.WalkKit
import Derived.OwnWalk
import Derived.Lib.Hide
namespace Go.Proofs.YtkneafpmgbgalaaGreatDoor
open Go.RowKit
set_option linter.unusedVariables false
/-- An answer as a plain thing. -/
structure AnP where
  id : ByteArray
  ok : Bool
  da : List Int
  deriving DecidableEq
/-- An answer as it lies in memory. -/
structure An where
  id : ByteArray
  ok : Bool
  D : Option Addr
  n : Nat
  c : Nat
  da : List Int
def An.pl (x : An) : AnP := ⟨x.id, x.ok, x.da⟩
def anCells (l : List An) : List Value := l.flatMap fun x => [.string x.id, .bool x.ok, .slice x.D x.n x.c]
theorem anCells_append (l m : List An) : anCells (l ++ m) = anCells l ++ anCells m := by simp [anCells]
theorem anCells_at (l : List An) (i : Nat) (x : An) (hx : l[i]? = some x) : (anCells l)[i * 3]? = some (.string x.id) ∧ (anCells l)[i * 3 + 1]? = some (.bool x.ok) ∧ (anCells l)[i * 3 + 2]? = some (.slice x.D x.n x.c) := by
  induction l generalizing i with
  | nil => simp at hx
  | cons y l ih =>
    cases i with
    | zero => simp at hx; subst hx; simp [anCells]
    | succ i =>
      have h := ih i (by simpa using hx)
      have e1 : (i + 1) * 3 = i * 3 + 1 + 1 + 1 := by omega
      simp only [anCells, List.flatMap_cons, List.cons_append, List.nil_append, e1] at h ⊢
      have r : ∀ j, i * 3 + 1 + 1 + 1 + j = (i * 3 + j) + 1 + 1 + 1 := fun j => by omega
      refine ⟨by simpa using h.1, ?_, ?_⟩
      · rw [r 1]; simpa using h.2.1
      · rw [r 2]; simpa using h.2.2
def AnAt (w : World) (a : Addr) (x : An) : Prop :=
  a.block < w.heap.size ∧ w.cell? a = some (.string x.id) ∧ w.cell? ⟨a.block, a.off + 1, none⟩ = some (.bool x.ok) ∧ w.cell? ⟨a.block, a.off + 2, none⟩ = some (.slice x.D x.n x.c)
def AnOk (w : World) (x : An) : Prop := BytesAt w x.D x.n x.da ∧ x.n ≤ x.c ∧ x.c ≤ 9223372036854775807
def AnsAt (w : World) (A : Option Addr) (n : Nat) (l : List An) : Prop := l.length = n ∧ ∀ i, i < n → ∃ a x, A = some a ∧ l[i]? = some x ∧ AnAt w (a.add (i * 3)) x ∧ AnOk w x
theorem AnAt.below {w w' : World} {a : Addr} {x : An} {B : Nat} (h : AnAt w a x) (hb : Below B w w') (hB : a.block < B) : AnAt w' a x := by
  obtain ⟨h0, h1, h2, h3⟩ := h
  exact ⟨Nat.lt_of_lt_of_le h0 hb.size, (hb.cell hB).trans h1, (hb.cell (p := ⟨a.block, a.off + 1, none⟩) hB).trans h2, (hb.cell (p := ⟨a.block, a.off + 2, none⟩) hB).trans h3⟩
theorem AnOk.below {w w' : World} {x : An} (h : AnOk w x) (hb : Below w.heap.size w w') : AnOk w' x := ⟨h.1.below hb, h.2⟩
theorem AnsAt.below {w w' : World} {A : Option Addr} {n : Nat} {l : List An} (h : AnsAt w A n l) (hb : Below w.heap.size w w') : AnsAt w' A n l :=
  ⟨h.1, fun i hi => by obtain ⟨a, e, h1, h2, h3, h4⟩ := h.2 i hi; exact ⟨a, e, h1, h2, h3.below hb h3.1, h4.below hb⟩⟩
theorem AnsAt.ok {w : World} {A : Option Addr} {n : Nat} {l : List An} (h : AnsAt w A n l) : ∀ x ∈ l, AnOk w x := fun x hx => by
  obtain ⟨i, hi, rfl⟩ := List.getElem_of_mem hx
  obtain ⟨a, e', _, h2, _, h4⟩ := h.2 i (by rw [← h.1]; exact hi)
  rw [List.getElem?_eq_getElem hi] at h2
  cases h2; exact h4
/-- An answer whose bytes are a block of the call's own. -/
def FreshD (w : World) (base : Nat) (x : An) : Prop :=
  ∃ g, x.D = some ⟨g, 0, none⟩ ∧ base ≤ g ∧ w.heap[g]? = some (.cells (byteCells x.da).toArray 5 (0, 0)) ∧ x.da.length = x.n ∧ x.n ≤ x.c ∧ x.c ≤ 9223372036854775807 ∧ ∀ b ∈ x.da, 0 ≤ b ∧ b ≤ 255
theorem FreshD.ok {w : World} {base : Nat} {x : An} (h : FreshD w base x) : AnOk w x := by
  obtain ⟨g, h1, h2, h3, h4, h5, h6, h7⟩ := h
  refine ⟨⟨h4, fun k hk => ?_⟩, h5, h6⟩
  have hk2 : k < x.da.length := by omega
  refine ⟨⟨g, 0, none⟩, x.da[k], h1, List.getElem?_eq_getElem hk2, (h7 _ (List.getElem_mem hk2)).1, (h7 _ (List.getElem_mem hk2)).2, (Array.getElem?_eq_some_iff.1 h3).1, ?_⟩
  rw [show (⟨g, 0, none⟩ : Addr).add k = ⟨g, k, none⟩ by unfold Addr.add; split <;> simp_all, Lib.cell_of_heap h3]
  simp [byteCells, hk2]
theorem FreshD.below {w w' : World} {base : Nat} {x : An} (h : FreshD w base x) (hb : Below w.heap.size w w') : FreshD w' base x := by
  obtain ⟨g, h1, h2, h3, r⟩ := h
  exact ⟨g, h1, h2, (hb.block g (Array.getElem?_eq_some_iff.1 h3).1).trans h3, r⟩
/-- Another block than its own is written. -/
theorem FreshD.grown {w w' : World} {base : Nat} {x : An} {row : Option Nat} (h : FreshD w base x) (hg : w.grownBy w' row) (hr : ∀ r cs t, row = some r → w.heap[r]? = some (.cells cs t (0, 0)) → ¬ t = 5) : FreshD w' base x := by
  obtain ⟨g, h1, h2, h3, r⟩ := h
  exact ⟨g, h1, h2, (hg.block g (Array.getElem?_eq_some_iff.1 h3).1 (fun e => hr g _ _ e.symm h3 rfl)).trans h3, r⟩
theorem FreshD.base {w : World} {base base' : Nat} {x : An} (h : FreshD w base x) (hb : base' ≤ base) : FreshD w base' x := by
  obtain ⟨g, h1, h2, r⟩ := h
  exact ⟨g, h1, Nat.le_trans hb h2, r⟩
def AnRow (w : World) (base : Nat) (v : Value) (l : List An) : Prop := w.ownsRow base 51 3 v l.length (anCells l) ∧ ∀ x ∈ l, FreshD w base x
theorem addGA (g j : Nat) : (⟨g, 0, none⟩ : Addr).add j = ⟨g, j, none⟩ := by unfold Addr.add; split <;> simp_all
theorem AnRow.at {w : World} {base c : Nat} {A : Option Addr} {l : List An} (h : AnRow w base (.slice A l.length c) l) : AnsAt w A l.length l := by
  refine ⟨rfl, fun i hi => ?_⟩
  have hx : l[i]? = some l[i] := List.getElem?_eq_getElem hi
  rcases h.1.2 with ⟨_, h2⟩ | ⟨g, cap, cur, hv, hg, hh, _⟩
  · omega
  · cases hv
    obtain ⟨h0, h1, h2⟩ := anCells_at l i l[i] hx
    have hc : ∀ j u, (anCells l)[j]? = some u → w.cell? ⟨g, j, none⟩ = some u := fun j u hj => by
      have := h.1.cells rfl j u hj
      rwa [addGA] at this
    refine ⟨⟨g, 0, none⟩, l[i], rfl, hx, ?_, (h.2 _ (List.getElem_mem hi)).ok⟩
    rw [addGA]
    exact ⟨(h.1.lt g rfl).2, hc _ _ h0, hc _ _ h1, hc _ _ h2⟩
end Go.Proofs.YtkneafpmgbgalaaGreatDoor
