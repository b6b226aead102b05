/- The contracts of the reference's Classes and Is. Conditions: none. -/
import Derived.Test.YtbklopnpehafpaaDoorCharsRef
import Derived.Test.YtbklopnpehafpaaDoorCharsNames
namespace Go.Proofs.YtbklopnpehafpaaDoor
open Go.RowKit Go.Proofs.YtbklopnpehafpaaDoor.CharsPlain
set_option maxHeartbeats 1000000 in
theorem rclasses_any (r : Int) (w : World) : Calls Tryd.prog 51 #[.int .i64 r] w (RetI (classes r) w) := by
  have b1 := one_b (isChar r)
  have b2 := one_b (isBlank r)
  have b3 := one_b (isStart r)
  have b4 := one_b (isName r)
  have b5 := one_b (isPubid r)
  go_enter Tryd.func51, Tryd.ntmps51
  go_wp2_with fail
  refine (rchar_any _ _).mono ?_; rintro e w' ⟨rfl, rfl⟩
  go_wp2_with fail
  refine (rone_any _ _).mono ?_; rintro e w' ⟨rfl, rfl⟩
  go_wp2_with fail
  refine (rblank_any _ _).mono ?_; rintro e w' ⟨rfl, rfl⟩
  go_wp2_with fail
  refine (rone_any _ _).mono ?_; rintro e w' ⟨rfl, rfl⟩
  go_wp2_with fail
  refine (rstart_any _ _).mono ?_; rintro e w' ⟨rfl, rfl⟩
  go_wp2_with fail
  refine (rone_any _ _).mono ?_; rintro e w' ⟨rfl, rfl⟩
  go_wp2_with fail
  refine (rname_any _ _).mono ?_; rintro e w' ⟨rfl, rfl⟩
  go_wp2_with fail
  refine (rone_any _ _).mono ?_; rintro e w' ⟨rfl, rfl⟩
  go_wp2_with fail
  refine (rpubid_any _ _).mono ?_; rintro e w' ⟨rfl, rfl⟩
  go_wp2_with fail
  refine (rone_any _ _).mono ?_; rintro e w' ⟨rfl, rfl⟩
  go_wp2
  go_ret
  exact ⟨ret_int (by unfold classes; omega), rfl⟩
set_option maxHeartbeats 1000000 in
theorem ris_any (k : Nat) (r : Int) (w : World) (hk : k < 5) : Calls Tryd.prog 38 #[.int .i64 k, .int .i64 r] w (RetB (isK k r) w) := by
  have hb := classes_b r
  go_enter Tryd.func38, Tryd.ntmps38
  go_wp2_with fail
  refine (rclasses_any _ _).mono ?_; rintro e w' ⟨rfl, rfl⟩
  go_wp2_with fail
  go_loop [5, 6] (fun n i => ∃ j : Nat, j ≤ k ∧ i = .int .i64 j ∧ n = .int .i64 (halved (classes r) j)) (fun _ i => k - (intOf i).toNat)
  case atStart => exact ⟨0, by omega, rfl, rfl⟩
  case round =>
    obtain ⟨j, hj, rfl, rfl⟩ := hrel
    have hh := halved_b _ hb j
    by_cases hlt : j < k
    · go_wp2
      go_round
      case rel => exact ⟨j + 1, by omega, by go_num, rfl⟩
      case measure => simp [intOf]; omega
    · obtain rfl : j = k := by omega
      go_wp2
      go_ret
      exact ⟨ret_bool (halved_isK r j hk), rfl⟩
end Go.Proofs.YtbklopnpehafpaaDoor
