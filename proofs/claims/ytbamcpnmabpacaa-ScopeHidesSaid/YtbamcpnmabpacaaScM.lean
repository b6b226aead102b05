/- What a scope holds, in memory: rows of what is bound, frames one behind the other. -/
import Derived.Test.YtbamcpnmabpacaaBel
import Derived.Test.YtbamcpnmabpacaaProg
import Derived.Below
import Derived.WalkKit
import Derived.OwnWalk
import Derived.Lib.Hide
import Derived.Lib.Builder
namespace Go.Proofs.Ytbamcpnmabpacaa
open Go.RowKit
set_option linter.unusedVariables false
/-- A prefix, and what it means. -/
structure Bd where
  p : ByteArray
  s : ByteArray
def bdCells (l : List Bd) : List Value := l.flatMap fun x => [.string x.p, .string x.s]
theorem bdCells_append (l m : List Bd) : bdCells (l ++ m) = bdCells l ++ bdCells m := by simp [bdCells]
theorem bdCells_len (l : List Bd) : (bdCells l).length = l.length * 2 := by
  induction l with
  | nil => rfl
  | cons x l ih => simp only [bdCells, List.flatMap_cons, List.length_append, List.length_cons, List.length_nil] at ih ⊢; omega
theorem bdCells_at (l : List Bd) (i : Nat) (x : Bd) (hx : l[i]? = some x) : (bdCells l)[i * 2]? = some (.string x.p) ∧ (bdCells l)[i * 2 + 1]? = some (.string x.s) := by
  induction l generalizing i with
  | nil => simp at hx
  | cons y l ih =>
    cases i with
    | zero => simp at hx; subst hx; simp [bdCells]
    | succ i =>
      have h := ih i (by simpa using hx)
      have e1 : (i + 1) * 2 = i * 2 + 1 + 1 := by omega
      simp only [bdCells, List.flatMap_cons, List.cons_append, List.nil_append, e1] at h ⊢
      have r : ∀ j, i * 2 + 1 + 1 + j = (i * 2 + j) + 1 + 1 := fun j => by omega
      refine ⟨by simpa using h.1, ?_⟩
      rw [r 1]; simpa using h.2
theorem bd_one {l : List Bd} : ∀ u ∈ bdCells l, u.oneCell' = true := by
  intro u hu
  unfold bdCells at hu
  obtain ⟨x, _, hx⟩ := List.mem_flatMap.1 hu
  simp at hx
  rcases hx with rfl | rfl <;> rfl
def BdAt (w : World) (a : Addr) (x : Bd) : Prop := a.block < w.heap.size ∧ w.cell? a = some (.string x.p) ∧ w.cell? ⟨a.block, a.off + 1, none⟩ = some (.string x.s)
def BdsAt (w : World) (A : Option Addr) (n : Nat) (l : List Bd) : Prop := l.length = n ∧ ∀ i, i < n → ∃ a x, A = some a ∧ l[i]? = some x ∧ BdAt w (a.add (i * 2)) x
theorem BdAt.below {w w' : World} {a : Addr} {x : Bd} {B : Nat} (h : BdAt w a x) (hb : Below B w w') (hB : a.block < B) : BdAt w' a x := by
  obtain ⟨h0, h1, h2⟩ := h
  exact ⟨Nat.lt_of_lt_of_le h0 hb.size, (hb.cell hB).trans h1, (hb.cell (p := ⟨a.block, a.off + 1, none⟩) hB).trans h2⟩
theorem BdsAt.below {w w' : World} {A : Option Addr} {n : Nat} {l : List Bd} (h : BdsAt w A n l) (hb : Below w.heap.size w w') : BdsAt w' A n l :=
  ⟨h.1, fun i hi => by obtain ⟨a, e, h1, h2, h3⟩ := h.2 i hi; exact ⟨a, e, h1, h2, h3.below hb h3.1⟩⟩
theorem addGS (g j : Nat) : (⟨g, 0, none⟩ : Addr).add j = ⟨g, j, none⟩ := by unfold Addr.add; split <;> simp_all
theorem addBlockS (a : Addr) (k : Nat) : (a.add k).block = a.block := by unfold Addr.add; split <;> rfl
theorem BdsAt.of_own {w : World} {base c : Nat} {e : TypeId} {A : Option Addr} {l : List Bd} (h : w.ownsRow base e 2 (.slice A l.length c) l.length (bdCells l)) : BdsAt w A l.length l := by
  refine ⟨rfl, fun i hi => ?_⟩
  have hx : l[i]? = some l[i] := List.getElem?_eq_getElem hi
  rcases h.2 with ⟨_, h2⟩ | ⟨g, cap, cur, hv, hg, hh, _⟩
  · omega
  · cases hv
    obtain ⟨h0, h1⟩ := bdCells_at l i l[i] hx
    have hc : ∀ j u, (bdCells l)[j]? = some u → w.cell? ⟨g, j, none⟩ = some u := fun j u hj => by
      have := h.cells rfl j u hj
      rwa [addGS] at this
    refine ⟨⟨g, 0, none⟩, l[i], rfl, hx, ?_⟩
    rw [addGS]
    exact ⟨(h.lt g rfl).2, hc _ _ h0, hc _ _ h1⟩
/-- Rows of rows. -/
def RowsAt (w : World) (A : Option Addr) (n : Nat) (ls : List (List Bd)) : Prop :=
  ls.length = n ∧ ∀ i, i < n → ∃ a x B c, A = some a ∧ ls[i]? = some x ∧ a.block < w.heap.size ∧ w.cell? (a.add i) = some (.slice B x.length c) ∧ BdsAt w B x.length x ∧ (B = none → c = 0)
theorem RowsAt.below {w w' : World} {A : Option Addr} {n : Nat} {ls : List (List Bd)} (h : RowsAt w A n ls) (hb : Below w.heap.size w w') : RowsAt w' A n ls :=
  ⟨h.1, fun i hi => by
    obtain ⟨a, x, B, c, h1, h2, h3, h4, h5, h6⟩ := h.2 i hi
    exact ⟨a, x, B, c, h1, h2, Nat.lt_of_lt_of_le h3 hb.size, (hb.cell (by rw [addBlockS]; exact h3)).trans h4, h5.below hb, h6⟩⟩
theorem RowsAt.take {w : World} {A : Option Addr} {n k : Nat} {ls : List (List Bd)} (h : RowsAt w A n ls) (hk : k ≤ n) : RowsAt w A k (ls.take k) := by
  refine ⟨by rw [List.length_take, h.1]; omega, fun i hi => ?_⟩
  obtain ⟨a, x, B, c, h1, h2, r⟩ := h.2 i (by omega)
  exact ⟨a, x, B, c, h1, by rw [List.getElem?_take_of_lt hi]; exact h2, r⟩
/-! Rows of the call's own, however blocks are kept. -/
theorem ownS_same {w w' : World} {base : Nat} {e : TypeId} {size : Nat} {v : Value} {n : Nat} {xs : List Value} (h : w.ownsRow base e size v n xs) (hs : ∀ b, v.ownBlock = some b → w'.heap[b]? = w.heap[b]?) : w'.ownsRow base e size v n xs := by
  refine ⟨h.1, ?_⟩
  rcases h.2 with h2 | ⟨g, cap, cur, rfl, hg, hh, r⟩
  · exact .inl h2
  · exact .inr ⟨g, cap, cur, rfl, hg, (hs g rfl).trans hh, r⟩
theorem ownS_blk {w : World} {base : Nat} {e : TypeId} {size : Nat} {v : Value} {n : Nat} {xs : List Value} (h : w.ownsRow base e size v n xs) {b : Nat} (hb : v.ownBlock = some b) : b < w.heap.size ∧ base ≤ b ∧ ∃ cs, w.heap[b]? = some (.cells cs e (0, 0)) := by
  rcases h.2 with ⟨rfl, _⟩ | ⟨g, cap, cur, rfl, hg, hh, _⟩
  · cases hb
  · cases hb
    exact ⟨(Array.getElem?_eq_some_iff.1 hh).1, hg, _, hh⟩
theorem ownS_ne {w : World} {base : Nat} {e : TypeId} {size : Nat} {v : Value} {n : Nat} {xs : List Value} (h : w.ownsRow base e size v n xs) {b : Nat} {cs : Array Value} {t : TypeId} (hb : w.heap[b]? = some (.cells cs t (0, 0))) (ht : ¬ t = e) : v.ownBlock ≠ some b := by
  intro hv
  obtain ⟨_, _, ds, hh⟩ := ownS_blk h hv
  rw [hb] at hh
  injection hh with hh
  injection hh with _ hh
  exact ht hh
theorem ownS_below {w w' : World} {base : Nat} {e : TypeId} {size : Nat} {v : Value} {n : Nat} {xs : List Value} (h : w.ownsRow base e size v n xs) (hb : Below w.heap.size w w') : w'.ownsRow base e size v n xs :=
  ownS_same h (fun b hv => hb.block b (ownS_blk h hv).1)
theorem ownS_low {w : World} {base b' : Nat} {e : TypeId} {size : Nat} {v : Value} {n : Nat} {xs : List Value} (h : w.ownsRow base e size v n xs) (hb : b' ≤ base) : w.ownsRow b' e size v n xs :=
  ⟨h.1, h.2.imp (fun h => h) (fun ⟨g, cap, cur, hv, hg, r⟩ => ⟨g, cap, cur, hv, Nat.le_trans hb hg, r⟩)⟩
theorem ownS_shape {w : World} {base : Nat} {e : TypeId} {size : Nat} {v : Value} {n : Nat} {xs : List Value} (h : w.ownsRow base e size v n xs) : ∃ A c, v = .slice A n c ∧ n ≤ c ∧ c ≤ 9223372036854775807 ∧ (A = none → c = 0) := by
  rcases h.2 with ⟨h1, h2⟩ | ⟨g, cap, cur, rfl, _, _, h3, h4, _⟩
  · exact ⟨none, 0, by rw [h1, h2], by omega, by omega, fun _ => rfl⟩
  · exact ⟨_, cap, rfl, h3, h4, fun h => by cases h⟩
/-- Frames, the innermost first. -/
def FrAt (w : World) (base : Nat) : Option Addr → List (List Bd) → Prop
  | p, [] => p = none
  | p, f :: fs => ∃ b A c q, p = some ⟨b, 0, none⟩ ∧ base ≤ b ∧ w.heap[b]? = some (.cells #[.slice A f.length c, .pointer q] 49 (0, 0)) ∧ w.ownsRow base 40 2 (.slice A f.length c) f.length (bdCells f) ∧ FrAt w base q fs
theorem FrAt.same {w w' : World} {base g : Nat} {cs : Array Value} (hz : w.heap[g]? = some (.cells cs 46 (0, 0))) (hs : ∀ j, j < w.heap.size → j ≠ g → w'.heap[j]? = w.heap[j]?) : ∀ (fs : List (List Bd)) (p : Option Addr), FrAt w base p fs → FrAt w' base p fs
  | [], p, h => h
  | f :: fs, p, h => by
    obtain ⟨b, A, c, q, h1, h2, h3, h4, h5⟩ := h
    refine ⟨b, A, c, q, h1, h2, (hs b (Array.getElem?_eq_some_iff.1 h3).1 (fun e => by subst e; rw [hz] at h3; cases h3)).trans h3, ownS_same h4 (fun j hj => hs j (ownS_blk h4 hj).1 (fun e => ownS_ne h4 hz (by decide) (e ▸ hj))), FrAt.same hz hs fs q h5⟩
theorem FrAt.below {w w' : World} {base : Nat} (hb : Below w.heap.size w w') : ∀ (fs : List (List Bd)) (p : Option Addr), FrAt w base p fs → FrAt w' base p fs
  | [], p, h => h
  | f :: fs, p, h => by
    obtain ⟨b, A, c, q, h1, h2, h3, h4, h5⟩ := h
    exact ⟨b, A, c, q, h1, h2, (hb.block b (Array.getElem?_eq_some_iff.1 h3).1).trans h3, ownS_below h4 hb, FrAt.below hb fs q h5⟩
/-- A scope. -/
structure ScAt (w : World) (base g : Nat) (fs : List (List Bd)) (p : Option Addr) : Prop where
  blk : w.heap[g]? = some (.cells #[.pointer p, .int .i64 fs.length] 46 (0, 0))
  gbase : base ≤ g
  fr : FrAt w base p fs
theorem ScAt.below {w w' : World} {base g : Nat} {fs : List (List Bd)} {p : Option Addr} (h : ScAt w base g fs p) (hb : Below w.heap.size w w') : ScAt w' base g fs p :=
  ⟨(hb.block g (Array.getElem?_eq_some_iff.1 h.blk).1).trans h.blk, h.gbase, FrAt.below hb fs p h.fr⟩
theorem ScAt.c0 {w : World} {base g : Nat} {fs : List (List Bd)} {p : Option Addr} (h : ScAt w base g fs p) : w.cell? ⟨g, 0, none⟩ = some (.pointer p) ∧ w.cell? ⟨g, 1, none⟩ = some (.int .i64 fs.length) ∧ w.frozen? ⟨g, 0, none⟩ = false ∧ w.frozen? ⟨g, 1, none⟩ = false :=
  ⟨by rw [Lib.cell_of_heap h.blk]; rfl, by rw [Lib.cell_of_heap h.blk]; rfl, Lib.frozen_of_heap h.blk 0, Lib.frozen_of_heap h.blk 1⟩
/-- Nothing but the scope's own block is written. -/
structure KeepS (w w' : World) (g : Nat) : Prop where
  os : w'.os = w.os
  tape : w'.tape = w.tape
  output : w'.output = w.output
  size : w.heap.size ≤ w'.heap.size
  block : ∀ k, k < w.heap.size → k ≠ g → w'.heap[k]? = w.heap[k]?
theorem KeepS.of_below {w w' : World} (h : Below w.heap.size w w') (g : Nat) : KeepS w w' g := ⟨h.os, h.tape, h.output, h.size, fun k hk _ => h.block k hk⟩
theorem KeepS.trans {w w1 w2 : World} {g : Nat} (h : KeepS w w1 g) (h2 : KeepS w1 w2 g) : KeepS w w2 g :=
  ⟨h2.os.trans h.os, h2.tape.trans h.tape, h2.output.trans h.output, Nat.le_trans h.size h2.size, fun k hk hn => (h2.block k (Nat.lt_of_lt_of_le hk h.size) hn).trans (h.block k hk hn)⟩
theorem KeepS.set {w W : World} {g i : Nat} {u : Value} (h : KeepS w W g) : KeepS w (W.setCell ⟨g, i, none⟩ u) g :=
  ⟨h.os, h.tape, h.output, by simpa [World.setCell] using h.size, fun k hk hn => (Below.heap_setCell _ _ _ _ hn).trans (h.block k hk hn)⟩
theorem KeepS.below {w w' : World} {g B : Nat} (h : KeepS w w' g) (hB : B ≤ w.heap.size) (hg : B ≤ g) : Below B w w' :=
  ⟨h.os, h.tape, h.output, h.size, fun k hk => h.block k (by omega) (by omega)⟩
end Go.Proofs.Ytbamcpnmabpacaa
