/- The walk of narthexlaw21.UriDots. Conditions: internal/bytealg.MaxLen holds an int. -/
import Derived.Test.YtkneafpmgbgalaaGreatDoorUriSteps
import Derived.Test.YtkneafpmgbgalaaGreatDoorUriRDots
namespace Go.Proofs.YtkneafpmgbgalaaGreatDoor
open Go.RowKit Go.Proofs.YtkneafpmgbgalaaGreatDoor.CharsPlain Go.Proofs.YtkneafpmgbgalaaGreatDoor.UriPlain
set_option linter.unusedVariables false
set_option linter.unusedSimpArgs false
theorem rdots_is (s t : ByteArray) (w : World) (hs : s.size ≤ 1048576) (h1 : bS (dotsL s.data.toList) = t) : Calls Tryz.prog 54 #[.string s] w (TellS t w) := by
  rw [← h1]; exact rdots_any s w hs
end Go.Proofs.YtkneafpmgbgalaaGreatDoor
