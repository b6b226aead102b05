/- Events and attributes in memory, as the walks read them: their cells, what they count, and how a world that only grows keeps them. -/
import Derived.Test.YtlifdmehejehjaaDoorBel
import Derived.Test.YtlifdmehejehjaaDoorProg
import Derived.WalkKit
import Derived.Below
import Derived.Outline
import Derived.WalkLawsBesides
import Derived.Lib.Hide
import Derived.OwnWalk
namespace Go.Proofs.YtlifdmehejehjaaDoor
open Go.RowKit
structure At where
  sp : ByteArray
  lo : ByteArray
  va : ByteArray
  deriving Inhabited, DecidableEq
structure Ev where
  k : Int
  sp : ByteArray
  lo : ByteArray
  A : Option Addr
  n : Nat
  c : Nat
  tx : ByteArray
  ats : List At
  deriving Inhabited, DecidableEq
def At.size (x : At) : Nat := x.sp.size + x.lo.size + x.va.size
def atSum (l : List At) : Nat := (l.map At.size).sum
def Ev.size (e : Ev) : Nat := e.sp.size + e.lo.size + e.tx.size + atSum e.ats
/-- All that one event counts: its letters, and its attributes. -/
def Ev.all (e : Ev) : Nat := e.size + e.n
def evSum (l : List Ev) : Nat := (l.map Ev.all).sum
theorem atSum_take (l : List At) (k : Nat) (x : At) (h : l[k]? = some x) : atSum (l.take (k + 1)) = atSum (l.take k) + x.size := by
  unfold atSum; rw [List.take_add_one, h]; simp
theorem evSum_take (l : List Ev) (k : Nat) (x : Ev) (h : l[k]? = some x) : evSum (l.take (k + 1)) = evSum (l.take k) + x.all := by
  unfold evSum; rw [List.take_add_one, h]; simp
theorem sum_take_le (l : List Nat) (k : Nat) : (l.take k).sum ≤ l.sum := by
  have h : l.sum = (l.take k).sum + (l.drop k).sum := by rw [← List.sum_append, List.take_append_drop]
  omega
theorem atSum_le (l : List At) (k : Nat) : atSum (l.take k) ≤ atSum l := by unfold atSum; rw [List.map_take]; exact sum_take_le _ _
theorem evSum_le (l : List Ev) (k : Nat) : evSum (l.take k) ≤ evSum l := by unfold evSum; rw [List.map_take]; exact sum_take_le _ _
theorem atSum_mem {l : List At} {k : Nat} {x : At} (h : l[k]? = some x) : x.size ≤ atSum l := by
  have h1 := atSum_take l k x h
  have h2 := atSum_le l (k + 1)
  omega
theorem evSum_mem {l : List Ev} {k : Nat} {x : Ev} (h : l[k]? = some x) : x.all ≤ evSum l := by
  have h1 := evSum_take l k x h
  have h2 := evSum_le l (k + 1)
  omega
/-- One attribute at an address. -/
def AtAt (w : World) (a : Addr) (x : At) : Prop :=
  a.block < w.heap.size ∧ w.cell? a = some (.string x.sp) ∧ w.cell? ⟨a.block, a.off + 1, none⟩ = some (.string x.lo) ∧ w.cell? ⟨a.block, a.off + 2, none⟩ = some (.string x.va)
def AtsAt (w : World) (A : Option Addr) (n : Nat) (l : List At) : Prop := l.length = n ∧ ∀ i, i < n → ∃ a x, A = some a ∧ l[i]? = some x ∧ AtAt w (a.add (i * 3)) x
/-- One event at an address. -/
def EvAt (w : World) (a : Addr) (e : Ev) : Prop :=
  a.block < w.heap.size ∧ w.cell? a = some (.int .i64 e.k) ∧ w.cell? ⟨a.block, a.off + 1, none⟩ = some (.string e.sp) ∧ w.cell? ⟨a.block, a.off + 2, none⟩ = some (.string e.lo) ∧ w.cell? ⟨a.block, a.off + 3, none⟩ = some (.slice e.A e.n e.c) ∧ w.cell? ⟨a.block, a.off + 4, none⟩ = some (.string e.tx)
/-- What an event's value says of memory: its attributes. -/
def EvOk (w : World) (e : Ev) : Prop := AtsAt w e.A e.n e.ats ∧ e.n ≤ e.c ∧ e.c ≤ 9223372036854775807
def EvsAt (w : World) (A : Option Addr) (n : Nat) (l : List Ev) : Prop := l.length = n ∧ ∀ i, i < n → ∃ a e, A = some a ∧ l[i]? = some e ∧ EvAt w (a.add (i * 5)) e ∧ EvOk w e
def Ev.val (e : Ev) : Value := .agg #[.int .i64 e.k, .string e.sp, .string e.lo, .slice e.A e.n e.c, .string e.tx]
theorem AtAt.below {w w' : World} {a : Addr} {x : At} {B : Nat} (h : AtAt w a x) (hb : Below B w w') (hB : a.block < B) : AtAt w' a x := by
  obtain ⟨h0, h1, h2, h3⟩ := h
  exact ⟨Nat.lt_of_lt_of_le h0 hb.size, (hb.cell hB).trans h1, (hb.cell (p := ⟨a.block, a.off + 1, none⟩) hB).trans h2, (hb.cell (p := ⟨a.block, a.off + 2, none⟩) hB).trans h3⟩
theorem AtsAt.below {w w' : World} {A : Option Addr} {n : Nat} {l : List At} (h : AtsAt w A n l) (hb : Below w.heap.size w w') : AtsAt w' A n l :=
  ⟨h.1, fun i hi => by obtain ⟨a, x, h1, h2, h3⟩ := h.2 i hi; exact ⟨a, x, h1, h2, h3.below hb h3.1⟩⟩
theorem EvAt.below {w w' : World} {a : Addr} {e : Ev} {B : Nat} (h : EvAt w a e) (hb : Below B w w') (hB : a.block < B) : EvAt w' a e := by
  obtain ⟨h0, h1, h2, h3, h4, h5⟩ := h
  exact ⟨Nat.lt_of_lt_of_le h0 hb.size, (hb.cell hB).trans h1, (hb.cell (p := ⟨a.block, a.off + 1, none⟩) hB).trans h2, (hb.cell (p := ⟨a.block, a.off + 2, none⟩) hB).trans h3, (hb.cell (p := ⟨a.block, a.off + 3, none⟩) hB).trans h4, (hb.cell (p := ⟨a.block, a.off + 4, none⟩) hB).trans h5⟩
theorem EvOk.below {w w' : World} {e : Ev} (h : EvOk w e) (hb : Below w.heap.size w w') : EvOk w' e := ⟨h.1.below hb, h.2⟩
theorem EvsAt.below {w w' : World} {A : Option Addr} {n : Nat} {l : List Ev} (h : EvsAt w A n l) (hb : Below w.heap.size w w') : EvsAt w' A n l :=
  ⟨h.1, fun i hi => by obtain ⟨a, e, h1, h2, h3, h4⟩ := h.2 i hi; exact ⟨a, e, h1, h2, h3.below hb h3.1, h4.below hb⟩⟩
theorem EvsAt.ok {w : World} {A : Option Addr} {n : Nat} {l : List Ev} (h : EvsAt w A n l) : ∀ e ∈ l, EvOk w e := fun e he => by
  obtain ⟨i, hi, rfl⟩ := List.getElem_of_mem he
  obtain ⟨a, e', _, h2, _, h4⟩ := h.2 i (by rw [← h.1]; exact hi)
  rw [List.getElem?_eq_getElem hi] at h2
  cases h2; exact h4
theorem below_drewN (B : Nat) (w : World) (n : Nat) : Below B w (w.drewN n) := (Below.refl B w).trans ⟨rfl, rfl, rfl, Nat.le_refl _, fun _ _ => rfl⟩
theorem below_drew (B : Nat) (w : World) : Below B w w.drew := (Below.refl B w).trans ⟨rfl, rfl, rfl, Nat.le_refl _, fun _ _ => rfl⟩
end Go.Proofs.YtlifdmehejehjaaDoor
