/- dtd's begun rows. Conditions: none. -/
import Derived.Test.YtapjmfgpdkghlaaDoorDtGet
namespace Go.Proofs.YtapjmfgpdkghlaaDoor
open Go.RowKit Go.Maps
set_option linter.unusedVariables false
set_option linter.unusedSimpArgs false
def BegunTold (t e : TypeId) (sz : Nat) (w : World) (en : Ending) (w' : World) : Prop := ∃ R : Rm, en = .returned (.pointer (some ⟨R.rb, 0, none⟩)) ∧ RowAt w' w.heap.size t e sz R [] [] ∧ Below w.heap.size w w'
theorem begunWorld (w : World) (t e : TypeId) (sz : Nat) : ∃ V, (w.alloc (.map #[] 0)).alloc (.cells #[.map (some w.heap.size), .slice none 0 0] t) = V ∧ ∃ R : Rm, R.rb = w.heap.size + 1 ∧ RowAt V w.heap.size t e sz R [] [] ∧ Below w.heap.size w V := by
  have h1 : Below w.heap.size w (w.alloc (.map #[] 0)) := (Below.refl _ w).alloc (Nat.le_refl _) _
  have z1 : (w.alloc (.map #[] 0)).heap.size = w.heap.size + 1 := by simp
  have m1 := World.ownsMap_made w Tryd.prog 9 (plainElem (H := Unit) Tryd.prog 3)
  have g2 : Below (w.alloc (.map #[] 0)).heap.size (w.alloc (.map #[] 0)) ((w.alloc (.map #[] 0)).alloc (.cells #[.map (some w.heap.size), .slice none 0 0] t)) := (Below.refl _ _).alloc (Nat.le_refl _) _
  have b2 := Box2.new (w.alloc (.map #[] 0)) t (.map (some w.heap.size)) (.slice none 0 0)
  rw [z1] at b2
  refine ⟨_, rfl, ⟨w.heap.size + 1, w.heap.size, none, 0, 0, .map []⟩, rfl, ⟨b2, map_same m1 (g2.block _ m1.lt), KeyI.nil, Nat.le_refl _, World.ownsRow_nil _ _ _ _, Nat.le_succ _, Nat.le_refl _⟩, h1.alloc (by rw [z1]; exact Nat.le_succ _) _⟩
theorem begunEl_any (w : World) : Calls Tryd.prog 46 #[] w (BegunTold 66 74 2 w) := by
  obtain ⟨V, hV, R, hR, hA, hB⟩ := begunWorld w 66 74 2
  have HA := Lib.hid hA
  have HB := Lib.hid hB
  have HR := Lib.hid hR
  have hmm := @run_makeMap Tryd.prog
  clear hA hB hR
  go_enter Tryd.func46, Tryd.ntmps46
  go_wp2
  go_ret
  exact ⟨R, by rw [HR.out]; rfl, HA.out, HB.out⟩
theorem begunEx_any (w : World) : Calls Tryd.prog 45 #[] w (BegunTold 91 44 2 w) := by
  obtain ⟨V, hV, R, hR, hA, hB⟩ := begunWorld w 91 44 2
  have HA := Lib.hid hA
  have HB := Lib.hid hB
  have HR := Lib.hid hR
  have hmm := @run_makeMap Tryd.prog
  clear hA hB hR
  go_enter Tryd.func45, Tryd.ntmps45
  go_wp2
  go_ret
  exact ⟨R, by rw [HR.out]; rfl, HA.out, HB.out⟩
theorem begunEn_any (w : World) : Calls Tryd.prog 44 #[] w (BegunTold 87 46 6 w) := by
  obtain ⟨V, hV, R, hR, hA, hB⟩ := begunWorld w 87 46 6
  have HA := Lib.hid hA
  have HB := Lib.hid hB
  have HR := Lib.hid hR
  have hmm := @run_makeMap Tryd.prog
  clear hA hB hR
  go_enter Tryd.func44, Tryd.ntmps44
  go_wp2
  go_ret
  exact ⟨R, by rw [HR.out]; rfl, HA.out, HB.out⟩
theorem begunDf_any (w : World) : Calls Tryd.prog 50 #[] w (BegunTold 80 82 5 w) := by
  obtain ⟨V, hV, R, hR, hA, hB⟩ := begunWorld w 80 82 5
  have HA := Lib.hid hA
  have HB := Lib.hid hB
  have HR := Lib.hid hR
  have hmm := @run_makeMap Tryd.prog
  clear hA hB hR
  go_enter Tryd.func50, Tryd.ntmps50
  go_wp2
  go_ret
  exact ⟨R, by rw [HR.out]; rfl, HA.out, HB.out⟩
end Go.Proofs.YtapjmfgpdkghlaaDoor
