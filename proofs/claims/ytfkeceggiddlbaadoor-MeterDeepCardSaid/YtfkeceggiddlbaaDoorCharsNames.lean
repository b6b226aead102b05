/- The contracts of the reference's NameStart and NameChar of layer 3, and of the classes' number. Conditions: integer arguments are any. -/
import Derived.Test.YtfkeceggiddlbaaDoorCharsRef
import Derived.BigGuardPart
namespace Go.Proofs.YtfkeceggiddlbaaDoor
open Go.RowKit Go.Proofs.YtfkeceggiddlbaaDoor.CharsPlain
end Go.Proofs.YtfkeceggiddlbaaDoor
