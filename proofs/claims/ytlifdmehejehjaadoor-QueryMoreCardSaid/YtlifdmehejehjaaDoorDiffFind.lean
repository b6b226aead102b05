/- The contract of diff.Find: where a path begins. Conditions: at most 2^40 events. -/
import Derived.Test.YtlifdmehejehjaaDoorDiffRows
namespace Go.Proofs.YtlifdmehejehjaaDoor
open Go.RowKit
theorem Tryd.infoIntD : (Tryd.prog.info? 3).map (fun i => (i.zero, i.size, i.bytes)) = some (some (.int .i64 0), 1, 8) := by kernel_rfl
/-- The places, of the first k events, at which an element of that path begins. -/
def findK (l : List Ev) (path : List ByteArray) : Nat → List Int
  | 0 => []
  | k + 1 => findK l path k ++ (match l[k]? with | some e => if e.k = 1 ∧ pathP (l.take (k + 1)) = path then [(k : Int)] else [] | none => [])
theorem findK_len (l : List Ev) (path : List ByteArray) (k : Nat) : (findK l path k).length ≤ k := by
  induction k with
  | zero => simp [findK]
  | succ k ih =>
    unfold findK
    rw [List.length_append]
    have : (match l[k]? with | some e => if e.k = 1 ∧ pathP (l.take (k + 1)) = path then [(k : Int)] else [] | none => []).length ≤ 1 := by
      split
      · split <;> simp
      · simp
    omega
theorem findK_yes {l : List Ev} {path : List ByteArray} {k : Nat} {e : Ev} (hx : l[k]? = some e) (h : e.k = 1 ∧ pathP (l.take (k + 1)) = path) : findK l path (k + 1) = findK l path k ++ [(k : Int)] := by
  show findK l path k ++ _ = _
  rw [hx]; simp only [if_pos h]
theorem findK_no {l : List Ev} {path : List ByteArray} {k : Nat} {e : Ev} (hx : l[k]? = some e) (h : ¬ (e.k = 1 ∧ pathP (l.take (k + 1)) = path)) : findK l path (k + 1) = findK l path k := by
  show findK l path k ++ _ = _
  rw [hx]; simp only [if_neg h, List.append_nil]
theorem numCell_new (w : World) (x : Value) (t : TypeId) : ∀ j u, [x][j]? = some u → (w.alloc (.cells #[x] t)).cell? ((⟨w.heap.size, 0, none⟩ : Addr).add j) = some u := strCell_new w x t
def TellInts (l : List Int) (w : World) (e : Ending) (w' : World) : Prop :=
  ∃ A c, e = .returned (.slice A l.length c) ∧ IntsAt w' A l.length l ∧ Below w.heap.size w w'
theorem block_lt {w : World} {base n size : Nat} {e : TypeId} {v : Value} {xs : List Value} (h : w.ownsRow base e size v n xs) : ∀ g, v.ownBlock = some g → g < w.heap.size := fun g hg => (h.lt g hg).2
/-- Two rows of the call's own, in blocks of their own. -/
def Apart (u v : Value) : Prop := u.ownBlock = none ∨ u.ownBlock ≠ v.ownBlock
theorem Apart.symm' {u v : Value} (h : Apart u v) : Apart v u := by
  unfold Apart at *
  rcases h with h | h
  · cases hv : v.ownBlock with
    | none => exact .inl rfl
    | some g => exact .inr (by rw [h]; simp)
  · exact .inr h.symm
/-- The one goes on; what it has become is apart from the other. -/
theorem Apart.next {w : World} {u v v' : Value} (h : Apart u v) (hu : ∀ g, u.ownBlock = some g → g < w.heap.size) (hv : v'.ownBlock = v.ownBlock ∨ ∃ g, v'.ownBlock = some g ∧ w.heap.size ≤ g) : Apart u v' := by
  unfold Apart at *
  cases hb : u.ownBlock with
  | none => exact .inl rfl
  | some g =>
    refine .inr ?_
    rcases hv with hv | ⟨k, hk, hle⟩
    · rw [hv, ← hb]; rcases h with h | h
      · rw [h] at hb; cases hb
      · exact h
    · rw [hk]; intro heq
      have h9 := Option.some.inj heq
      have := hu g hb; omega
end Go.Proofs.YtlifdmehejehjaaDoor
