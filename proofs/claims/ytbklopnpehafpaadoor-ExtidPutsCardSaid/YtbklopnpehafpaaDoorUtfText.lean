/- The contracts of utf.Text, and of the reference's Text and Ints. Conditions: as utf.Encode; fewer than 2^40 numbers. -/
import Derived.Test.YtbklopnpehafpaaDoorUtfLive
import Derived.Deep.QuietTactic
import Derived.BigQuiet
namespace Go.Proofs.YtbklopnpehafpaaDoor
open Go.RowKit Go.Proofs.YtbklopnpehafpaaDoor.UtfPlain
def flat (l : List Int) : List Int := l.flatMap encL
theorem flat_len (l : List Int) : (flat l).length ≤ 4 * l.length := by
  induction l with
  | nil => simp [flat]
  | cons r l ih => have := sizeR_b r; have := encL_length r; simp only [flat, List.flatMap_cons, List.length_append, List.length_cons] at *; omega
theorem flat_snoc (l : List Int) (r : Int) : flat (l ++ [r]) = flat l ++ encL r := by simp [flat]
def TellText (ok : Bool) (xs : List Int) (w : World) (e : Ending) (w' : World) : Prop :=
  ∃ A c, e = .returned (.tuple #[.slice A (if ok = true then xs.length else 0) c, .int .i64 (if ok = true then 0 else 6)]) ∧
    (ok = true → w'.ownsRow w.heap.size 5 1 (.slice A xs.length c) xs.length (byteCells xs)) ∧ Below w.heap.size w w'
theorem Tryd.infoU8 : (Tryd.prog.info? 5).map (fun i => (i.zero, i.size, i.bytes)) = some (some (.int .u8 0), 1, 1) := by kernel_rfl
theorem own_byte {w : World} {base n c : Nat} {e : TypeId} {a : Addr} {xs : List Value} (h : w.ownsRow base e 1 (.slice (some a) n c) n xs) : ∀ j u, xs[j]? = some u → w.cell? (a.add j) = some u := by
  intro j u hu
  rcases h.2 with ⟨h2, h3⟩ | ⟨g, cap, cur, hv, _, hh, _⟩
  · cases h2
  · cases hv
    exact h.cells (g := g) rfl j _ hu
def TellRText (ok : Bool) (xs : List Int) (w : World) (e : Ending) (w' : World) : Prop :=
  ∃ A c, e = .returned (.tuple #[.slice A (if ok = true then xs.length else 0) c, .bool ok]) ∧
    (ok = true → w'.ownsRow w.heap.size 5 1 (.slice A xs.length c) xs.length (byteCells xs)) ∧ Below w.heap.size w w'
def RetT (w : World) (e : Ending) (w' : World) : Prop := e = .returned (.bool true) ∧ ∃ d, w' = w.drewN d
end Go.Proofs.YtbklopnpehafpaaDoor
