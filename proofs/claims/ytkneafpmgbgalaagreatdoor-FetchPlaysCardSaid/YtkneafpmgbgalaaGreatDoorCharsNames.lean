/- The contracts of the reference's NameStart and NameChar of layer 3, and of the classes' number. Conditions: integer arguments are any. -/
import Derived.Test.YtkneafpmgbgalaaGreatDoorCharsRef
import Derived.BigGuardPart
namespace Go.Proofs.YtkneafpmgbgalaaGreatDoor
open Go.RowKit Go.Proofs.YtkneafpmgbgalaaGreatDoor.CharsPlain
end Go.Proofs.YtkneafpmgbgalaaGreatDoor
