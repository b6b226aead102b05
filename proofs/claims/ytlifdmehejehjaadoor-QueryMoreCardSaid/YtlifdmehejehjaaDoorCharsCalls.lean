/- The contracts of the classes of layer 3 (chars). Conditions: the three tables hold what the text gives them. -/
import Derived.Test.YtlifdmehejehjaaDoorBel
import Derived.Test.YtlifdmehejehjaaDoorCharsIn
import Derived.Test.YtlifdmehejehjaaDoorCharsNames
import Derived.Test.YtlifdmehejehjaaDoorShelf
namespace Go.Proofs.YtlifdmehejehjaaDoor
open Go.RowKit Go.Shelf Go.Proofs.YtlifdmehejehjaaDoor.CharsPlain
def docs : List (Int × Int) := [(9, 10), (13, 13), (32, 55295), (57344, 65533), (65536, 1114111)]
def starts : List (Int × Int) := [(58, 58), (65, 90), (95, 95), (97, 122), (192, 214), (216, 246), (248, 767), (880, 893), (895, 8191), (8204, 8205), (8304, 8591), (11264, 12271), (12289, 55295), (63744, 64975), (65008, 65533), (65536, 983039)]
def mores : List (Int × Int) := [(45, 46), (48, 57), (183, 183), (768, 879), (8255, 8256)]
/-- The three tables hold what the text gives them. -/
structure Tabs (w : World) : Prop where
  starts : RunsAt w 3 starts
  mores : RunsAt w 4 mores
  size : 3 < w.heap.size ∧ 3 < w.heap.size ∧ 4 < w.heap.size
theorem RunsAt.below {w w' : World} {b : Nat} {rs : List (Int × Int)} {B : Nat} (h : RunsAt w b rs) (hb : Below B w w') (hB : b < B) : RunsAt w' b rs := fun k hk => by
  obtain ⟨x, y, h1, h2, h3⟩ := h k hk
  exact ⟨x, y, h1, (hb.cell (p := ⟨b, k * 2, none⟩) hB).trans h2, (hb.cell (p := ⟨b, k * 2 + 1, none⟩) hB).trans h3⟩
theorem Tabs.below {w w' : World} (h : Tabs w) {B : Nat} (hb : Below B w w') (hB : 3 < B ∧ 3 < B ∧ 4 < B) : Tabs w' :=
  ⟨h.starts.below hb (by omega), h.mores.below hb (by omega), by have h1 := h.size; have h2 := hb.size; omega⟩
theorem Tabs.drewN {w : World} (h : Tabs w) (n : Nat) : Tabs (w.drewN n) := ⟨h.starts, h.mores, h.size⟩
theorem docs_rising : Rising docs := by unfold Rising docs; decide
theorem starts_rising : Rising starts := by unfold Rising starts; decide
theorem mores_rising : Rising mores := by unfold Rising mores; decide
theorem in_docs (r : Int) : inRuns docs r = isChar r := by rw [Bool.eq_iff_iff]; simp [inRuns, docs, isChar]; omega
theorem in_starts (r : Int) : inRuns starts r = isStart r := by rw [Bool.eq_iff_iff]; simp [inRuns, starts, isStart]; omega
theorem in_mores (r : Int) : inRuns mores r = isMore r := by rw [Bool.eq_iff_iff]; simp [inRuns, mores, isMore]; omega
set_option maxHeartbeats 400000 in
theorem start_any (r : Int) (w : World) (ht : Tabs w) : Calls Tryd.prog 61 #[.int .i64 r] w (BelB (isStart r) w) := by
  have HT := Lib.hid ht
  clear ht
  go_enter Tryd.func61, Tryd.ntmps61
  go_wp2_with fail
  refine (in_any _ 16 16 starts r w (by omega) rfl starts_rising (by have := HT.out.size; omega) HT.out.starts).mono ?_
  rintro e w' ⟨rfl, hb⟩
  rw [in_starts]
  go_wp2
  go_ret
  exact ⟨rfl, hb⟩
set_option maxHeartbeats 400000 in
theorem name_any (r : Int) (w : World) (ht : Tabs w) : Calls Tryd.prog 62 #[.int .i64 r] w (BelB (isName r) w) := by
  have HT := Lib.hid ht
  clear ht
  cases hs : isStart r with
  | true =>
    have HS := Lib.hid hs
    clear hs
    go_enter Tryd.func62, Tryd.ntmps62
    go_wp2_with fail
    refine (start_any r w HT.out).mono ?_
    rintro e w' ⟨rfl, hb⟩
    rw [HS.out]
    go_wp2
    go_ret
    exact ⟨ret_bool (by simp [isName, HS.out]), hb⟩
  | false =>
    have HS := Lib.hid hs
    clear hs
    go_enter Tryd.func62, Tryd.ntmps62
    go_wp2_with fail
    refine (start_any r w HT.out).mono ?_
    rintro e w1 ⟨rfl, hb⟩
    rw [HS.out]
    have HT1 := Lib.hid (HT.out.below hb HT.out.size)
    go_wp2_with fail
    refine (in_any _ 5 5 mores r w1 (by omega) rfl mores_rising (by have := HT1.out.size; omega) HT1.out.mores).mono ?_
    rintro e w2 ⟨rfl, hb2⟩
    rw [in_mores]
    go_wp2
    go_ret
    exact ⟨ret_bool (by simp [isName, HS.out]), hb.trans (hb2.mono hb.size)⟩
end Go.Proofs.YtlifdmehejehjaaDoor
