/- The contracts of the reference's NameStart and NameChar of layer 3, and of the classes' number. Conditions: integer arguments are any. -/
import Derived.Test.YtfkeceggiddlbaaGreatDoorCharsRef
import Derived.BigGuardPart
namespace Go.Proofs.YtfkeceggiddlbaaGreatDoor
open Go.RowKit Go.Proofs.YtfkeceggiddlbaaGreatDoor.CharsPlain
end Go.Proofs.YtfkeceggiddlbaaGreatDoor
