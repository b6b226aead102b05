/- The contracts of the reference's NameStart and NameChar of layer 3, and of the classes' number. Conditions: integer arguments are any. -/
import Derived.Test.YtjohlopcknofcaaDoorCharsRef
import Derived.BigGuardPart
namespace Go.Proofs.YtjohlopcknofcaaDoor
open Go.RowKit Go.Proofs.YtjohlopcknofcaaDoor.CharsPlain
end Go.Proofs.YtjohlopcknofcaaDoor
