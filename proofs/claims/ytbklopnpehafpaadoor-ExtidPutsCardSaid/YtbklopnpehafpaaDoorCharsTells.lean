/- The walk of the law CharsTells: it returns true for any two numbers. Conditions: the three tables hold what the text gives them. -/
import Derived.Test.YtbklopnpehafpaaDoorCharsIs
namespace Go.Proofs.YtbklopnpehafpaaDoor
open Go.RowKit Go.Shelf Go.Proofs.YtbklopnpehafpaaDoor.CharsPlain
/-- What can be of the classes of one number. -/
theorem cases6 (r : Int) : (isStart r = true ∧ isName r = true ∧ isBlank r = true ∧ isChar r = true) ∨ (isStart r = true ∧ isName r = true ∧ isBlank r = false ∧ isChar r = true) ∨
    (isStart r = false ∧ isBlank r = true ∧ isChar r = true) ∨ (isStart r = false ∧ isBlank r = false ∧ isName r = true ∧ isChar r = true) ∨
    (isStart r = false ∧ isBlank r = false ∧ isName r = false ∧ isPubid r = true ∧ isChar r = true) ∨ (isStart r = false ∧ isBlank r = false ∧ isName r = false ∧ isPubid r = false) := by
  cases h1 : isStart r with
  | true =>
    have h2 := start_name r h1
    have h3 := start_char r h1
    cases h4 : isBlank r <;> simp [h2, h3]
  | false =>
    cases h4 : isBlank r with
    | true => have h3 := blank_char r h4; simp [h3]
    | false =>
      cases h5 : isName r with
      | true => have h3 := name_char r h5; simp [h3]
      | false =>
        cases h6 : isPubid r with
        | true => have h3 := pubid_char r h6; simp [h3]
        | false => simp
end Go.Proofs.YtbklopnpehafpaaDoor
