/- The contracts of the reference's NameStart and NameChar of layer 3, and of the classes' number. Conditions: integer arguments are any. -/
import Derived.Test.YtkpefendeonemaaDoorCharsRef
import Derived.BigGuardPart
namespace Go.Proofs.YtkpefendeonemaaDoor
open Go.RowKit Go.Proofs.YtkpefendeonemaaDoor.CharsPlain
end Go.Proofs.YtkpefendeonemaaDoor
