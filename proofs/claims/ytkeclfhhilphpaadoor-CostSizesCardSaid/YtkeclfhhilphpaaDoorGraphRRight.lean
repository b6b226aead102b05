/- The reference's Right. Conditions: at most 2^40 places. -/
import Derived.Test.YtkeclfhhilphpaaDoorGraphRight
import Derived.Deep.LoopGhost
import Derived.Deep.RegionHeld3
namespace Go.Proofs.YtkeclfhhilphpaaDoor
open Go.RowKit Go.Proofs.YtkeclfhhilphpaaDoor.GraphPlain
theorem oddTake {nn : Nat} {r : List Int} {k : Nat} {x : Int} (h : ∀ y ∈ r.take k, oddN nn y = false) (hx : r[k]? = some x) (hp : oddN nn x = false) : ∀ y ∈ r.take (k + 1), oddN nn y = false := snocAll h hx hp
end Go.Proofs.YtkeclfhhilphpaaDoor
