/- The walks of narthexlaw21.live, UriSteps. Conditions: internal/bytealg.MaxLen holds an int. -/
import Derived.Test.YtkneafpmgbgalaaGreatDoorUriNorm
namespace Go.Proofs.YtkneafpmgbgalaaGreatDoor
open Go.RowKit Go.Proofs.YtkneafpmgbgalaaGreatDoor.CharsPlain Go.Proofs.YtkneafpmgbgalaaGreatDoor.UriPlain
set_option linter.unusedVariables false
set_option linter.unusedSimpArgs false
def TellNorm2 (t : ByteArray) (k : Int) (w : World) (e : Ending) (w' : World) : Prop := e = .returned (.tuple #[.string t, .int .i64 k]) ∧ Below w.heap.size w w'
theorem norm_is (s t : ByteArray) (k : Int) (w : World) (m : Int) (hs : s.size ≤ 1048576) (hm : w.cell? ⟨0, 0, none⟩ = some (.int .i64 m)) (h1 : bS (normU s.data.toList) = t) (h2 : uriE s.data.toList = k) : Calls Tryz.prog 35 #[.string s] w (TellNorm2 t k w) := by
  refine (norm_any s w m hs hm).mono ?_
  rintro e w' ⟨rfl, hb⟩
  rw [h1, h2]
  exact ⟨rfl, hb⟩
theorem maxlen_below {w w' : World} {m : Int} (hm : w.cell? ⟨0, 0, none⟩ = some (.int .i64 m)) (hb : Below w.heap.size w w') : w'.cell? ⟨0, 0, none⟩ = some (.int .i64 m) := (hb.cell (p := ⟨0, 0, none⟩) (World.block_lt_of_cell? _ _ hm)).trans hm
theorem dots_is (s t : ByteArray) (w : World) (m : Int) (hs : s.size ≤ 1048576) (hm : w.cell? ⟨0, 0, none⟩ = some (.int .i64 m)) (h1 : bS (dotsL s.data.toList) = t) : Calls Tryz.prog 61 #[.string s] w (TellS t w) := by
  rw [← h1]; exact dots_any s w m hs hm
theorem app_data (a b : ByteArray) : (a ++ b).data.toList = a.data.toList ++ b.data.toList := by rw [ByteArray.data_append, Array.toList_append]
end Go.Proofs.YtkneafpmgbgalaaGreatDoor
