/- The contracts of the reference's One, Same and Great of layer 23; the page's example. Conditions: internal/bytealg.MaxLen holds an int. -/
import Derived.Test.YtkneafpmgbgalaaGreatDoorOrRef2
namespace Go.Proofs.YtkneafpmgbgalaaGreatDoor
open Go.RowKit Go.Maps Go.Proofs.YtkneafpmgbgalaaGreatDoor.UriPlain
set_option linter.unusedVariables false
set_option linter.unusedSimpArgs false
theorem below_drewA (B : Nat) (w : World) : Below B w w.drew := (Below.refl B w).trans ⟨rfl, rfl, rfl, Nat.le_refl _, fun _ _ => rfl⟩
theorem map_at {ys zs : List An} (h : ys.map An.pl = zs.map An.pl) {k : Nat} {y z : An} (hy : ys[k]? = some y) (hz : zs[k]? = some z) : y.pl = z.pl := by
  have h2 := congrArg (fun l => l[k]?) h
  simp only [List.getElem?_map, hy, hz, Option.map_some] at h2
  exact Option.some.inj h2
end Go.Proofs.YtkneafpmgbgalaaGreatDoor
