/- Bytes as a string; utf.Len; the page's example (live). Conditions as utf.Runes. -/
import Derived.Test.YtbklopnpehafpaaDoorUtfEnc
import Derived.Test.YtbklopnpehafpaaDoorUtfPlain2
import Derived.Laws.BytesArg
import Derived.Test.YtbklopnpehafpaaDoorBytesStr
namespace Go.Proofs.YtbklopnpehafpaaDoor
open Go.RowKit Go.Proofs.YtbklopnpehafpaaDoor.UtfPlain
/-- utf.Len. -/
def TellLen (p : List Int × Option Nat) (w : World) (e : Ending) (w' : World) : Prop :=
  e = .returned (.tuple #[.int .i64 (match p.2 with | some _ => 0 | none => p.1.length), .int .i64 (match p.2 with | some _ => 5 | none => 0)]) ∧ Below w.heap.size w w'
theorem below2_drewN (B : Nat) (w : World) (n : Nat) : Below B w (w.drewN n) := (Below.refl B w).trans ⟨rfl, rfl, rfl, Nat.le_refl _, fun _ _ => rfl⟩
def TellLive (w : World) (e : Ending) (w' : World) : Prop := e = .returned (.bool true) ∧ Below w.heap.size w w'
theorem bytesAt_lit (w : World) (xs : List Int) (g : Nat) (hg : g = w.heap.size) (hl : xs.length ≤ 4) (hx : ∀ x ∈ xs, 0 ≤ x ∧ x ≤ 255) : BytesAt (w.alloc (.cells (byteCells xs).toArray 5)) (some ⟨g, 0, none⟩) xs.length xs := by
  subst hg
  obtain ⟨A, c, h1, h2, _⟩ := madeBytes_lit xs w hl
  cases h1
  exact BytesAt.of_own h2 hx
end Go.Proofs.YtbklopnpehafpaaDoor
