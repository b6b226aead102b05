/- The contracts of utf.Text, and of the reference's Text and Ints. Conditions: as utf.Encode; fewer than 2^40 numbers. -/
import Derived.Test.YthcehnmkabnjfaaDoorUtfLive
import Derived.Deep.QuietTactic
import Derived.BigQuiet
namespace Go.Proofs.YthcehnmkabnjfaaDoor
open Go.RowKit Go.Proofs.YthcehnmkabnjfaaDoor.UtfPlain
/-- A slice value's places, as far as its length, read as the numbers. -/
def NumsAt (w : World) (A : Option Addr) (n : Nat) (xs : List Int) : Prop :=
  xs.length = n ∧ ∀ k, k < n → ∃ a x, A = some a ∧ xs[k]? = some x ∧ a.block < w.heap.size ∧ w.cell? (a.add k) = some (.int .i64 x)
theorem NumsAt.below {w w' : World} {A : Option Addr} {n : Nat} {xs : List Int} (h : NumsAt w A n xs) (hb : Below w.heap.size w w') : NumsAt w' A n xs :=
  ⟨h.1, fun k hk => by
    obtain ⟨a, x, h1, h2, h5, h6⟩ := h.2 k hk
    exact ⟨a, x, h1, h2, Nat.lt_of_lt_of_le h5 hb.size, (hb.cell (p := a.add k) (by rw [addBlock]; exact h5)).trans h6⟩⟩
theorem NumsAt.of_own {w : World} {base : Nat} {e : TypeId} {A : Option Addr} {c : Nat} {xs : List Int} (h : w.ownsRow base e 1 (.slice A xs.length c) xs.length (intCells xs)) : NumsAt w A xs.length xs := by
  refine ⟨rfl, fun k hk => ?_⟩
  rcases h.2 with ⟨h2, h3⟩ | ⟨g, cap, cur, hv, _, hh, _⟩
  · omega
  · injection hv with hv1 hv2 hv3
    subst hv1
    refine ⟨_, xs[k], rfl, List.getElem?_eq_getElem hk, (h.lt g rfl).2, ?_⟩
    refine h.cells (g := g) rfl k _ ?_
    unfold intCells; rw [List.getElem?_map, List.getElem?_eq_getElem hk]; rfl
def flat (l : List Int) : List Int := l.flatMap encL
theorem flat_len (l : List Int) : (flat l).length ≤ 4 * l.length := by
  induction l with
  | nil => simp [flat]
  | cons r l ih => have := sizeR_b r; have := encL_length r; simp only [flat, List.flatMap_cons, List.length_append, List.length_cons] at *; omega
theorem flat_snoc (l : List Int) (r : Int) : flat (l ++ [r]) = flat l ++ encL r := by simp [flat]
def TellText (ok : Bool) (xs : List Int) (w : World) (e : Ending) (w' : World) : Prop :=
  ∃ A c, e = .returned (.tuple #[.slice A (if ok = true then xs.length else 0) c, .int .i64 (if ok = true then 0 else 6)]) ∧
    (ok = true → w'.ownsRow w.heap.size 5 1 (.slice A xs.length c) xs.length (byteCells xs)) ∧ Below w.heap.size w w'
theorem Tryd.infoU8 : (Tryd.prog.info? 5).map (fun i => (i.zero, i.size, i.bytes)) = some (some (.int .u8 0), 1, 1) := by kernel_rfl
theorem own_byte {w : World} {base n c : Nat} {e : TypeId} {a : Addr} {xs : List Value} (h : w.ownsRow base e 1 (.slice (some a) n c) n xs) : ∀ j u, xs[j]? = some u → w.cell? (a.add j) = some u := by
  intro j u hu
  rcases h.2 with ⟨h2, h3⟩ | ⟨g, cap, cur, hv, _, hh, _⟩
  · cases h2
  · cases hv
    exact h.cells (g := g) rfl j _ hu
def TellRText (ok : Bool) (xs : List Int) (w : World) (e : Ending) (w' : World) : Prop :=
  ∃ A c, e = .returned (.tuple #[.slice A (if ok = true then xs.length else 0) c, .bool ok]) ∧
    (ok = true → w'.ownsRow w.heap.size 5 1 (.slice A xs.length c) xs.length (byteCells xs)) ∧ Below w.heap.size w w'
def RetT (w : World) (e : Ending) (w' : World) : Prop := e = .returned (.bool true) ∧ ∃ d, w' = w.drewN d
end Go.Proofs.YthcehnmkabnjfaaDoor
