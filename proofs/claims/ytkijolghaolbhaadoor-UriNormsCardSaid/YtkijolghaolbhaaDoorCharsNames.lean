/- The contracts of the reference's NameStart and NameChar of layer 3, and of the classes' number. Conditions: integer arguments are any. -/
import Derived.Test.YtkijolghaolbhaaDoorCharsRef
import Derived.BigGuardPart
namespace Go.Proofs.YtkijolghaolbhaaDoor
open Go.RowKit Go.Proofs.YtkijolghaolbhaaDoor.CharsPlain
end Go.Proofs.YtkijolghaolbhaaDoor
