/- The contracts of the reference's Runes and Ints. Conditions: bytes read as numbers from 0 to 255, fewer than 2^40 of them. -/
import Derived.Test.YtlifdmehejehjaaDoorUtfChar
import Derived.OwnWalk
import Derived.Deep.QuietTactic
import Derived.BigQuiet
namespace Go.Proofs.YtlifdmehejehjaaDoor
open Go.RowKit Go.Proofs.YtlifdmehejehjaaDoor.UtfPlain
theorem Tryd.infoInt : (Tryd.prog.info? 3).map (fun i => (i.zero, i.size, i.bytes)) = some (some (.int .i64 0), 1, 8) := by kernel_rfl
def intCells (l : List Int) : List Value := l.map (Value.int .i64)
/-- What Runes gives: all characters, and -1; or nil, and the place of the first that is none. -/
def TellRunes (p : List Int × Option Nat) (w : World) (e : Ending) (w' : World) : Prop :=
  ∃ v, e = .returned (.tuple #[v, .int .i64 (match p.2 with | some i => (i : Int) | none => -1)]) ∧
    (match p.2 with | some _ => v = .slice none 0 0 | none => ∃ A c, v = .slice A p.1.length c ∧ w'.ownsRow w.heap.size 3 1 v p.1.length (intCells p.1)) ∧ Below w.heap.size w w'
theorem ownsRow_below' {w w' : World} {base : Nat} {e : TypeId} {size : Nat} {v : Value} {n : Nat} {xs : List Value} (h : w.ownsRow base e size v n xs) (hb : Below w.heap.size w w') : w'.ownsRow base e size v n xs := by
  refine ⟨h.1, ?_⟩
  rcases h.2 with h2 | ⟨g, cap, cur, hv, hg, hh, r⟩
  · exact .inl h2
  · refine .inr ⟨g, cap, cur, hv, hg, ?_, r⟩
    rcases Nat.lt_or_ge g w.heap.size with hlt | hge
    · rw [hb.block g hlt]; exact hh
    · rw [Array.getElem?_eq_none hge] at hh; cases hh
theorem ownsRow_shape {w : World} {base size n : Nat} {e : TypeId} {v : Value} {xs : List Value} (h : w.ownsRow base e size v n xs) : ∃ A c, v = .slice A n c := by
  rcases h.2 with ⟨h1, h2⟩ | ⟨g, cap, cur, hv, _⟩
  · exact ⟨none, 0, by rw [h1, h2]⟩
  · exact ⟨_, cap, hv⟩
/-- A slice value's places, as far as its length, read as the numbers. -/
def NumsAt (w : World) (A : Option Addr) (n : Nat) (xs : List Int) : Prop :=
  xs.length = n ∧ ∀ k, k < n → ∃ a x, A = some a ∧ xs[k]? = some x ∧ a.block < w.heap.size ∧ w.cell? (a.add k) = some (.int .i64 x)
theorem NumsAt.below {w w' : World} {A : Option Addr} {n : Nat} {xs : List Int} (h : NumsAt w A n xs) (hb : Below w.heap.size w w') : NumsAt w' A n xs :=
  ⟨h.1, fun k hk => by
    obtain ⟨a, x, h1, h2, h5, h6⟩ := h.2 k hk
    exact ⟨a, x, h1, h2, Nat.lt_of_lt_of_le h5 hb.size, (hb.cell (p := a.add k) (by rw [addBlock]; exact h5)).trans h6⟩⟩
theorem NumsAt.of_own {w : World} {base : Nat} {e : TypeId} {A : Option Addr} {c : Nat} {xs : List Int} (h : w.ownsRow base e 1 (.slice A xs.length c) xs.length (intCells xs)) : NumsAt w A xs.length xs := by
  refine ⟨rfl, fun k hk => ?_⟩
  rcases h.2 with ⟨h2, h3⟩ | ⟨g, cap, cur, hv, _, hh, _⟩
  · omega
  · injection hv with hv1 hv2 hv3
    subst hv1
    refine ⟨_, xs[k], rfl, List.getElem?_eq_getElem hk, (h.lt g rfl).2, ?_⟩
    refine h.cells (g := g) rfl k _ ?_
    unfold intCells; rw [List.getElem?_map, List.getElem?_eq_getElem hk]; rfl
theorem scan_len (xs : List Int) (f i : Nat) : (scan xs f i).1.length ≤ f := by
  induction f generalizing i with
  | zero => simp [scan]
  | succ f ih =>
    unfold scan
    split
    · split
      · simp
      · simp; exact ih _
    · simp
end Go.Proofs.YtlifdmehejehjaaDoor
