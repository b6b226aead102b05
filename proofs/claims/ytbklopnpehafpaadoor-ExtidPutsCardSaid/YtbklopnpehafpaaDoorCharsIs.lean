/- The contracts of the reference's Classes and Is, and of the law's own ask and live. Conditions: the three tables hold what the text gives them. -/
import Derived.Test.YtbklopnpehafpaaDoorCharsClasses
import Derived.Test.YtbklopnpehafpaaDoorCharsRIs
namespace Go.Proofs.YtbklopnpehafpaaDoor
open Go.RowKit Go.Shelf Go.Proofs.YtbklopnpehafpaaDoor.CharsPlain
theorem blank_bel (r : Int) (w : World) : Calls Tryd.prog 28 #[.int .i64 r] w (BelB (isBlank r) w) := (blank_any r w).mono fun _ _ ⟨h1, h2⟩ => ⟨h1, h2 ▸ Below.refl _ _⟩
theorem pubid_bel (r : Int) (w : World) : Calls Tryd.prog 21 #[.int .i64 r] w (BelB (isPubid r) w) := (pubid_any r w).mono fun _ _ ⟨h1, h2⟩ => ⟨h1, h2 ▸ Below.refl _ _⟩
theorem live3 : isChar 0 = false ∧ isChar 65534 = false ∧ isChar 9 = true ∧ isStart 58 = true ∧ isStart 45 = false ∧ isName 45 = true ∧ digit 102 16 = 15 := by decide +kernel
end Go.Proofs.YtbklopnpehafpaaDoor
