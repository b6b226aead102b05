/- How a document type begins, as plain lists of bytes; a byte at a place; the places behind. No program in sight, but for the names. -/
import Derived.Test.YtbklopnpehafpaaDoorExtRExt
namespace Go.Proofs.YtbklopnpehafpaaDoor
open Go.RowKit Go.Proofs.YtbklopnpehafpaaDoor.UtfPlain Go.Proofs.YtbklopnpehafpaaDoor.NamePlain Go.Proofs.YtbklopnpehafpaaDoor.CharsPlain
set_option linter.unusedVariables false
set_option linter.unusedSimpArgs false
structure DocR where
  has : Bool
  nm : List Int
  pub : List Int
  sys : List Int
  out : Bool
  op : Bool
  next : Int
  err : Int
def docZ (next err : Int) : DocR := ⟨false, [], [], [], false, false, next, err⟩
def markB : List Int := [60, 33, 68, 79, 67, 84, 89, 80, 69]
def docTail (xs nm pub sys : List Int) (out : Bool) (next : Int) : DocR :=
  if atN xs (blankZ xs next).toNat [91] then ⟨true, nm, pub, sys, out, true, blankZ xs next + 1, 0⟩
  else if atN xs (blankZ xs next).toNat [62] then ⟨true, nm, pub, sys, out, false, blankZ xs next + 1, 0⟩ else docZ 0 7
def docId (xs nm : List Int) (x : List Int × List Int × Int × Int) : DocR := if x.2.2.2 = 0 then docTail xs nm x.1 x.2.1 true x.2.2.1 else docZ 0 x.2.2.2
def docName (xs : List Int) (r : List Int × Int × Int) : DocR :=
  if r.2.2 = 0 then
    (if r.2.1 < blankZ xs r.2.1 ∧ (atN xs (blankZ xs r.2.1).toNat [83] = true ∨ atN xs (blankZ xs r.2.1).toNat [80] = true) then docId xs r.1 (extN xs (blankZ xs r.2.1))
    else docTail xs r.1 [] [] false r.2.1)
  else docZ 0 r.2.2
def docN (xs : List Int) (at_ : Int) : DocR :=
  if at_ < 0 ∨ (xs.length : Int) < at_ then docZ 0 3
  else if atN xs at_.toNat markB then
    (if blankZ xs (at_ + 9) = at_ + 9 then docZ 0 7 else docName xs (readN xs false (blankZ xs (at_ + 9))))
  else docZ at_ 0
theorem atN_one (xs : List Int) (i : Nat) (c : Int) : atN xs i [c] = decide (xs[i]? = some c) := by
  unfold atN
  rw [Bool.eq_iff_iff, decide_eq_true_eq]
  by_cases h : i < xs.length
  · rw [List.drop_eq_getElem_cons h, List.getElem?_eq_getElem h]
    simp [List.isPrefixOf]
    exact ⟨fun h => h.symm, fun h => h.symm⟩
  · rw [List.drop_eq_nil_of_le (by omega), List.getElem?_eq_none (by omega)]
    simp [List.isPrefixOf]
theorem nextF_le (bs : List Int) (c : Int) (f i k : Nat) (h : nextF bs c f i = some k) : k < bs.length ∧ i ≤ k := by
  induction f generalizing i with
  | zero => cases h
  | succ f ih =>
    simp only [nextF] at h
    split at h
    · cases h
    · split at h
      · injection h with h; subst h; omega
      · have := ih _ h; omega
theorem quoteN_next (xs : List Int) (j : Int) (h : (quoteN xs j).2.2 = 0) : ∃ k : Nat, (quoteN xs j).2.1 = k ∧ k ≤ xs.length := by
  unfold quoteN at h ⊢
  split at h
  · cases h
  · rename_i h1
    rw [if_neg h1]
    split at h
    · cases h
    · rename_i h2
      rw [if_neg h2]
      split at h
      · rename_i i hi
        have := nextF_le _ _ _ _ _ hi
        exact ⟨i + 1, by simp, by omega⟩
      · cases h
theorem sysN_next (xs : List Int) (j : Int) (h : (sysN xs j).2.2 = 0) : ∃ k : Nat, (sysN xs j).2.1 = k ∧ k ≤ xs.length := by
  unfold sysN at h ⊢
  split at h
  · cases h
  · rename_i h1
    rw [if_neg h1]; exact quoteN_next _ _ h
theorem withSys_next (pub : List Int) (n : Nat) (s : List Int × Int × Int) (hs : s.2.2 = 0 → ∃ k : Nat, s.2.1 = k ∧ k ≤ n) (h : (withSys pub s).2.2.2 = 0) : ∃ k : Nat, (withSys pub s).2.2.1 = k ∧ k ≤ n := by
  unfold withSys at h ⊢
  split at h
  · rename_i h1
    rw [if_pos h1]; exact hs h1
  · rename_i h1
    exact absurd h h1
theorem extN_next (xs : List Int) (j : Int) (h : (extN xs j).2.2.2 = 0) : ∃ k : Nat, (extN xs j).2.2.1 = k ∧ k ≤ xs.length := by
  unfold extN at h ⊢
  split at h
  · cases h
  · rename_i h1
    rw [if_neg h1]
    split at h
    · rename_i h2
      rw [if_pos h2]
      split at h
      · rename_i h3
        rw [if_pos h3]; exact withSys_next _ _ _ (sysN_next _ _) h
      · rename_i h3
        exact absurd h h3
    · rename_i h2
      rw [if_neg h2]
      split at h
      · rename_i h3
        rw [if_pos h3]; exact withSys_next _ _ _ (sysN_next _ _) h
      · cases h
theorem readN_next (xs : List Int) (plain : Bool) (j : Int) (h : (readN xs plain j).2.2 = 0) : ∃ k : Nat, (readN xs plain j).2.1 = k ∧ k ≤ xs.length := by
  unfold readN at h ⊢
  split at h
  · cases h
  · rename_i h1
    rw [if_neg h1]
    split at h
    · cases h
    · rename_i h2
      rw [if_neg h2]
      split at h
      · cases h
      · rename_i h3
        rw [if_neg h3]
        exact ⟨_, rfl, (endN_b xs plain true j.toNat (by omega)).2⟩
theorem blankZ_nat (xs : List Int) (k : Nat) (h : k ≤ xs.length) : ∃ q : Nat, blankZ xs k = q ∧ k ≤ q ∧ q ≤ xs.length :=
  ⟨_, blankZ_in xs k h, (blankN_b xs k h).1, (blankN_b xs k h).2⟩
/-- A block that holds a head. -/
def HdBlk (T : TypeId) (B : Nat) (has : Bool) (nm pub sys : ByteArray) (out op : Bool) (w : World) : Prop :=
  w.heap[B]? = some (.cells #[.bool has, .string nm, .string pub, .string sys, .bool out, .bool op] T (0, 0))
theorem HdBlk.lt {T : TypeId} {B : Nat} {has : Bool} {nm pub sys : ByteArray} {out op : Bool} {w : World} (h : HdBlk T B has nm pub sys out op w) : B < w.heap.size := (Array.getElem?_eq_some_iff.1 h).1
theorem HdBlk.below {T : TypeId} {B : Nat} {has : Bool} {nm pub sys : ByteArray} {out op : Bool} {w w' : World} (h : HdBlk T B has nm pub sys out op w) (hb : Below w.heap.size w w') : HdBlk T B has nm pub sys out op w' := by
  have hl := h.lt
  unfold HdBlk at *
  rw [hb.block B hl]; exact h
theorem HdBlk.cells {T : TypeId} {B : Nat} {has : Bool} {nm pub sys : ByteArray} {out op : Bool} {w : World} (h : HdBlk T B has nm pub sys out op w) :
    w.cell? ⟨B, 0, none⟩ = some (.bool has) ∧ w.cell? ⟨B, 1, none⟩ = some (.string nm) ∧ w.cell? ⟨B, 2, none⟩ = some (.string pub) ∧ w.cell? ⟨B, 3, none⟩ = some (.string sys) ∧ w.cell? ⟨B, 4, none⟩ = some (.bool out) ∧ w.cell? ⟨B, 5, none⟩ = some (.bool op) ∧
    w.frozen? ⟨B, 0, none⟩ = false ∧ w.frozen? ⟨B, 1, none⟩ = false ∧ w.frozen? ⟨B, 2, none⟩ = false ∧ w.frozen? ⟨B, 3, none⟩ = false ∧ w.frozen? ⟨B, 4, none⟩ = false ∧ w.frozen? ⟨B, 5, none⟩ = false := by
  unfold HdBlk at h
  exact ⟨by rw [Lib.cell_of_heap h]; rfl, by rw [Lib.cell_of_heap h]; rfl, by rw [Lib.cell_of_heap h]; rfl, by rw [Lib.cell_of_heap h]; rfl, by rw [Lib.cell_of_heap h]; rfl, by rw [Lib.cell_of_heap h]; rfl,
    Lib.frozen_of_heap h 0, Lib.frozen_of_heap h 1, Lib.frozen_of_heap h 2, Lib.frozen_of_heap h 3, Lib.frozen_of_heap h 4, Lib.frozen_of_heap h 5⟩
theorem HdBlk.set1 {T : TypeId} {B : Nat} {has : Bool} {nm pub sys : ByteArray} {out op : Bool} {w : World} (h : HdBlk T B has nm pub sys out op w) (s : ByteArray) : HdBlk T B has s pub sys out op (w.setCell ⟨B, 1, none⟩ (.string s)) := Go.Joins.block_setCell h _
theorem HdBlk.set2 {T : TypeId} {B : Nat} {has : Bool} {nm pub sys : ByteArray} {out op : Bool} {w : World} (h : HdBlk T B has nm pub sys out op w) (s : ByteArray) : HdBlk T B has nm s sys out op (w.setCell ⟨B, 2, none⟩ (.string s)) := Go.Joins.block_setCell h _
theorem HdBlk.set3 {T : TypeId} {B : Nat} {has : Bool} {nm pub sys : ByteArray} {out op : Bool} {w : World} (h : HdBlk T B has nm pub sys out op w) (s : ByteArray) : HdBlk T B has nm pub s out op (w.setCell ⟨B, 3, none⟩ (.string s)) := Go.Joins.block_setCell h _
theorem HdBlk.set4 {T : TypeId} {B : Nat} {has : Bool} {nm pub sys : ByteArray} {out op : Bool} {w : World} (h : HdBlk T B has nm pub sys out op w) (b : Bool) : HdBlk T B has nm pub sys b op (w.setCell ⟨B, 4, none⟩ (.bool b)) := Go.Joins.block_setCell h _
theorem HdBlk.set5 {T : TypeId} {B : Nat} {has : Bool} {nm pub sys : ByteArray} {out op : Bool} {w : World} (h : HdBlk T B has nm pub sys out op w) (b : Bool) : HdBlk T B has nm pub sys out b (w.setCell ⟨B, 5, none⟩ (.bool b)) := Go.Joins.block_setCell h _
theorem HdBlk.other {T : TypeId} {B g : Nat} {has : Bool} {nm pub sys : ByteArray} {out op : Bool} {w : World} (h : HdBlk T B has nm pub sys out op w) (hne : B ≠ g) (o : Nat) (v : Value) : HdBlk T B has nm pub sys out op (w.setCell ⟨g, o, none⟩ v) := by
  unfold HdBlk at *
  rw [Below.heap_setCell _ _ _ _ (by exact hne)]; exact h
theorem HdBlk.made (T : TypeId) (has : Bool) (nm pub sys : ByteArray) (out op : Bool) (w : World) : HdBlk T w.heap.size has nm pub sys out op (w.alloc (.cells #[.bool has, .string nm, .string pub, .string sys, .bool out, .bool op] T)) := by
  unfold HdBlk
  rw [World.alloc]; simp
def TellDoc (r : DocR) (w : World) (e : Ending) (w' : World) : Prop :=
  e = .returned (.tuple #[.agg #[.bool r.has, .string (strOfNums r.nm), .string (strOfNums r.pub), .string (strOfNums r.sys), .bool r.out, .bool r.op], .int .i64 r.next, .int .i64 r.err]) ∧ Below w.heap.size w w'
end Go.Proofs.YtbklopnpehafpaaDoor
