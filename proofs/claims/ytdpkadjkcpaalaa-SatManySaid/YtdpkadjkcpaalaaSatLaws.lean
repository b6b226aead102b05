/- The walks of the laws of layer 1: SatTells and SatOrder return true for any two, three int64 values. -/
import Derived.Test.YtdpkadjkcpaalaaSatMore
namespace Go.Proofs.Ytdpkadjkcpaalaa
open Go.RowKit Go.Proofs.Ytdpkadjkcpaalaa.SatPlain
theorem live1 : addS cap 1 = cap ∧ subS 3 5 = 0 ∧ powS 2 (holdS 63).toNat = cap ∧ powS 0 (holdS 0).toNat = 1 := by decide +kernel
/-- 'returns true, and the world is as it was'. -/
def RetT (w : World) (e : Ending) (w' : World) : Prop := e = .returned (.bool true) ∧ w = w'
theorem cap_b : 0 ≤ cap ∧ cap ≤ 9223372036854775807 := by unfold cap; omega
set_option maxHeartbeats 400000 in
theorem live_any (w : World) : Calls Try.prog 14 #[] w (RetT w) := by
  have hc := cap_b
  have L1 := Lib.hid live1
  have b1 : (cap == cap) = true := by simp
  have b2 : (cap == 9223372036854775807) = true := by decide
  go_enter Try.func14, Try.ntmps14
  go_wp2_with fail
  refine (cap_any _).mono ?_; rintro e w' ⟨rfl, rfl⟩
  go_wp2_with fail
  refine (add_any _ _ _ (by omega) (by omega)).mono ?_; rintro e w' ⟨rfl, rfl⟩
  rw [L1.out.1]
  go_wp2_with fail
  refine (cap_any _).mono ?_; rintro e w' ⟨rfl, rfl⟩
  go_wp2_with fail
  refine (sub_any _ _ _ (by omega) (by omega)).mono ?_; rintro e w' ⟨rfl, rfl⟩
  rw [L1.out.2.1]
  go_wp2_with fail
  refine (pow_any _ _ _ (by omega) (by omega)).mono ?_; rintro e w' ⟨rfl, rfl⟩
  rw [L1.out.2.2.1]
  go_wp2_with fail
  refine (cap_any _).mono ?_; rintro e w' ⟨rfl, rfl⟩
  go_wp2_with fail
  refine (pow_any _ _ _ (by omega) (by omega)).mono ?_; rintro e w' ⟨rfl, rfl⟩
  rw [L1.out.2.2.2]
  go_wp2_with fail
  refine (cap_any _).mono ?_; rintro e w' ⟨rfl, rfl⟩
  go_wp2_with fail
  go_ret
  exact ⟨rfl, rfl⟩
set_option maxHeartbeats 400000 in
theorem tells_any (a b : Int) (w : World) (ha : a ≤ 9223372036854775807) (hb : b ≤ 9223372036854775807) :
    Calls Try.prog 3 #[.int .i64 a, .int .i64 b] w (RetT w) := by
  go_enter Try.func3, Try.ntmps3
  go_wp2_with fail
  refine (hold_any _ _).mono ?_; rintro e w' ⟨rfl, rfl⟩
  go_wp2_with fail
  refine (rhold_any _ _).mono ?_; rintro e w' ⟨rfl, rfl⟩
  go_wp2_with fail
  refine (add_any _ _ _ ha hb).mono ?_; rintro e w' ⟨rfl, rfl⟩
  go_wp2_with fail
  refine (radd_any _ _ _ ha hb).mono ?_; rintro e w' ⟨rfl, rfl⟩
  go_wp2_with fail
  refine (sub_any _ _ _ ha hb).mono ?_; rintro e w' ⟨rfl, rfl⟩
  go_wp2_with fail
  refine (rsub_any _ _ _ ha hb).mono ?_; rintro e w' ⟨rfl, rfl⟩
  go_wp2_with fail
  refine (mul_any _ _ _ ha hb).mono ?_; rintro e w' ⟨rfl, rfl⟩
  go_wp2_with fail
  refine (rmul_any _ _ _ ha hb).mono ?_; rintro e w' ⟨rfl, rfl⟩
  go_wp2_with fail
  refine (live_any _).mono ?_; rintro e w' ⟨rfl, rfl⟩
  go_wp2_with fail
  go_ret
  exact ⟨rfl, rfl⟩
end Go.Proofs.Ytdpkadjkcpaalaa
