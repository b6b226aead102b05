/- The contracts of the reference's NameStart and NameChar of layer 3, and of the classes' number. Conditions: integer arguments are any. -/
import Derived.Test.YtlifdmehejehjaaDoorCharsRef
import Derived.BigGuardPart
namespace Go.Proofs.YtlifdmehejehjaaDoor
open Go.RowKit Go.Proofs.YtlifdmehejehjaaDoor.CharsPlain
set_option maxHeartbeats 1000000 in
set_option maxRecDepth 100000 in
theorem rstart_any (r : Int) (w : World) : Calls Tryd.prog 55 #[.int .i64 r] w (RetB (isStart r) w) := by
  by_cases h1 : r < 128
  · go_enter Tryd.func55, Tryd.ntmps55
    go_wp2
    all_goals
      go_ret
      exact ⟨ret_bool (by rw [Bool.eq_iff_iff]; first | (simp [isStart]; omega) | simp [isStart]), rfl⟩
  · by_cases h2 : r < 8192
    · go_enter Tryd.func55, Tryd.ntmps55
      go_wp2
      all_goals
        go_ret
        exact ⟨ret_bool (by rw [Bool.eq_iff_iff]; first | (simp [isStart]; omega) | simp [isStart]), rfl⟩
    · go_enter Tryd.func55, Tryd.ntmps55
      go_wp2
      all_goals
        go_ret
        exact ⟨ret_bool (by rw [Bool.eq_iff_iff]; first | (simp [isStart]; omega) | simp [isStart]), rfl⟩
set_option maxHeartbeats 1000000 in
theorem rname_any (r : Int) (w : World) : Calls Tryd.prog 54 #[.int .i64 r] w (RetB (isName r) w) := by
  cases hb : isStart r with
  | true =>
    have HB := Lib.hid hb
    clear hb
    go_enter Tryd.func54, Tryd.ntmps54
    go_wp2_with fail
    refine (rstart_any _ _).mono ?_; rintro e w' ⟨rfl, rfl⟩
    rw [HB.out]
    go_wp2
    go_ret
    exact ⟨ret_bool (by simp [isName, HB.out]), rfl⟩
  | false =>
    have HB := Lib.hid hb
    clear hb
    go_enter Tryd.func54, Tryd.ntmps54
    go_wp2_with fail
    refine (rstart_any _ _).mono ?_; rintro e w' ⟨rfl, rfl⟩
    rw [HB.out]
    go_wp2
    all_goals
      go_ret
      exact ⟨ret_bool (by first | (rw [Bool.eq_iff_iff]; simp [isName, isMore, HB.out]; done) | (rw [Bool.eq_iff_iff]; simp [isName, isMore, HB.out]; omega)), rfl⟩
end Go.Proofs.YtlifdmehejehjaaDoor
