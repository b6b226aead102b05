/- The contracts of the classes of layer 3 (chars). Conditions: the three tables hold what the text gives them. -/
import Derived.Test.YtkneafpmgbgalaaGreatDoorBel
import Derived.Test.YtkneafpmgbgalaaGreatDoorCharsIn
import Derived.Test.YtkneafpmgbgalaaGreatDoorCharsNames
import Derived.Test.YtkneafpmgbgalaaGreatDoorShelf
namespace Go.Proofs.YtkneafpmgbgalaaGreatDoor
open Go.RowKit Go.Shelf Go.Proofs.YtkneafpmgbgalaaGreatDoor.CharsPlain
def docs : List (Int × Int) := [(9, 10), (13, 13), (32, 55295), (57344, 65533), (65536, 1114111)]
def starts : List (Int × Int) := [(58, 58), (65, 90), (95, 95), (97, 122), (192, 214), (216, 246), (248, 767), (880, 893), (895, 8191), (8204, 8205), (8304, 8591), (11264, 12271), (12289, 55295), (63744, 64975), (65008, 65533), (65536, 983039)]
def mores : List (Int × Int) := [(45, 46), (48, 57), (183, 183), (768, 879), (8255, 8256)]
theorem RunsAt.below {w w' : World} {b : Nat} {rs : List (Int × Int)} {B : Nat} (h : RunsAt w b rs) (hb : Below B w w') (hB : b < B) : RunsAt w' b rs := fun k hk => by
  obtain ⟨x, y, h1, h2, h3⟩ := h k hk
  exact ⟨x, y, h1, (hb.cell (p := ⟨b, k * 2, none⟩) hB).trans h2, (hb.cell (p := ⟨b, k * 2 + 1, none⟩) hB).trans h3⟩
theorem docs_rising : Rising docs := by unfold Rising docs; decide
theorem starts_rising : Rising starts := by unfold Rising starts; decide
theorem mores_rising : Rising mores := by unfold Rising mores; decide
theorem in_docs (r : Int) : inRuns docs r = isChar r := by rw [Bool.eq_iff_iff]; simp [inRuns, docs, isChar]; omega
theorem in_starts (r : Int) : inRuns starts r = isStart r := by rw [Bool.eq_iff_iff]; simp [inRuns, starts, isStart]; omega
theorem in_mores (r : Int) : inRuns mores r = isMore r := by rw [Bool.eq_iff_iff]; simp [inRuns, mores, isMore]; omega
end Go.Proofs.YtkneafpmgbgalaaGreatDoor
