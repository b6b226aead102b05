/- The contracts of the reference's Classes and Is, and of the law's own ask and live. Conditions: the three tables hold what the text gives them. -/
import Derived.Test.YtflljhlbnaeebaaDoorCharsClasses
namespace Go.Proofs.YtflljhlbnaeebaaDoor
open Go.RowKit Go.Shelf Go.Proofs.YtflljhlbnaeebaaDoor.CharsPlain
set_option maxHeartbeats 1000000 in
theorem rclasses_any (r : Int) (w : World) : Calls Tryd.prog 31 #[.int .i64 r] w (RetI (classes r) w) := by
  have b1 := one_b (isChar r)
  have b2 := one_b (isBlank r)
  have b3 := one_b (isStart r)
  have b4 := one_b (isName r)
  have b5 := one_b (isPubid r)
  go_enter Tryd.func31, Tryd.ntmps31
  go_wp2_with fail
  refine (rchar_any _ _).mono ?_; rintro e w' ⟨rfl, rfl⟩
  go_wp2_with fail
  refine (rone_any _ _).mono ?_; rintro e w' ⟨rfl, rfl⟩
  go_wp2_with fail
  refine (rblank_any _ _).mono ?_; rintro e w' ⟨rfl, rfl⟩
  go_wp2_with fail
  refine (rone_any _ _).mono ?_; rintro e w' ⟨rfl, rfl⟩
  go_wp2_with fail
  refine (rstart_any _ _).mono ?_; rintro e w' ⟨rfl, rfl⟩
  go_wp2_with fail
  refine (rone_any _ _).mono ?_; rintro e w' ⟨rfl, rfl⟩
  go_wp2_with fail
  refine (rname_any _ _).mono ?_; rintro e w' ⟨rfl, rfl⟩
  go_wp2_with fail
  refine (rone_any _ _).mono ?_; rintro e w' ⟨rfl, rfl⟩
  go_wp2_with fail
  refine (rpubid_any _ _).mono ?_; rintro e w' ⟨rfl, rfl⟩
  go_wp2_with fail
  refine (rone_any _ _).mono ?_; rintro e w' ⟨rfl, rfl⟩
  go_wp2
  go_ret
  exact ⟨ret_int (by unfold classes; omega), rfl⟩
set_option maxHeartbeats 1000000 in
theorem ris_any (k : Nat) (r : Int) (w : World) (hk : k < 5) : Calls Tryd.prog 24 #[.int .i64 k, .int .i64 r] w (RetB (isK k r) w) := by
  have hb := classes_b r
  go_enter Tryd.func24, Tryd.ntmps24
  go_wp2_with fail
  refine (rclasses_any _ _).mono ?_; rintro e w' ⟨rfl, rfl⟩
  go_wp2_with fail
  go_loop [5, 6] (fun n i => ∃ j : Nat, j ≤ k ∧ i = .int .i64 j ∧ n = .int .i64 (halved (classes r) j)) (fun _ i => k - (intOf i).toNat)
  case atStart => exact ⟨0, by omega, rfl, rfl⟩
  case round =>
    obtain ⟨j, hj, rfl, rfl⟩ := hrel
    have hh := halved_b _ hb j
    by_cases hlt : j < k
    · go_wp2
      go_round
      case rel => exact ⟨j + 1, by omega, by go_num, rfl⟩
      case measure => simp [intOf]; omega
    · obtain rfl : j = k := by omega
      go_wp2
      go_ret
      exact ⟨ret_bool (halved_isK r j hk), rfl⟩
/-- The function that is asked of class k. -/
def askF : Nat → FuncId
  | 0 => 29
  | 1 => 27
  | 2 => 25
  | 3 => 26
  | _ => 28
theorem ask_any (k : Nat) (w : World) (hk : k < 5) : Calls Tryd.prog 23 #[.int .i64 k] w fun e w' => e = .returned (.func (.func (askF k)) #[] #[]) ∧ w = w' := by
  have hk' : k = 0 ∨ k = 1 ∨ k = 2 ∨ k = 3 ∨ k = 4 := by omega
  clear hk
  rcases hk' with rfl | rfl | rfl | rfl | rfl
  all_goals
    go_enter Tryd.func23, Tryd.ntmps23
    go_wp2
    go_ret
    exact ⟨rfl, rfl⟩
theorem blank_bel (r : Int) (w : World) : Calls Tryd.prog 27 #[.int .i64 r] w (BelB (isBlank r) w) := (blank_any r w).mono fun _ _ ⟨h1, h2⟩ => ⟨h1, h2 ▸ Below.refl _ _⟩
theorem pubid_bel (r : Int) (w : World) : Calls Tryd.prog 28 #[.int .i64 r] w (BelB (isPubid r) w) := (pubid_any r w).mono fun _ _ ⟨h1, h2⟩ => ⟨h1, h2 ▸ Below.refl _ _⟩
/-- Whatever class is asked. -/
theorem asked_any (k : Nat) (r : Int) (w : World) (ht : Tabs w) (hk : k < 5) : Calls Tryd.prog (askF k) #[.int .i64 r] w (BelB (isK k r) w) := by
  have hk' : k = 0 ∨ k = 1 ∨ k = 2 ∨ k = 3 ∨ k = 4 := by omega
  clear hk
  rcases hk' with rfl | rfl | rfl | rfl | rfl
  · exact char_any r w ht
  · exact blank_bel r w
  · exact start_any r w ht
  · exact name_any r w ht
  · exact pubid_bel r w
theorem live3 : isChar 0 = false ∧ isChar 65534 = false ∧ isChar 9 = true ∧ isStart 58 = true ∧ isStart 45 = false ∧ isName 45 = true ∧ digit 102 16 = 15 := by decide +kernel
set_option maxHeartbeats 1000000 in
theorem live3_any (w : World) (ht : Tabs w) : Calls Tryd.prog 34 #[] w (BelB true w) := by
  have HT := Lib.hid ht
  have L := Lib.hid live3
  clear ht
  go_enter Tryd.func34, Tryd.ntmps34
  go_wp2_with fail
  refine (char_any _ w HT.out).mono ?_; rintro e w1 ⟨rfl, hb1⟩
  rw [L.out.1]
  have HT1 := Lib.hid (HT.out.below hb1 HT.out.size)
  have B1 := Lib.hid hb1
  clear hb1
  go_wp2_with fail
  refine (char_any _ w1 HT1.out).mono ?_; rintro e w2 ⟨rfl, hb2⟩
  rw [L.out.2.1]
  have HT2 := Lib.hid (HT1.out.below hb2 HT1.out.size)
  have B2 := Lib.hid (B1.out.trans (hb2.mono B1.out.size))
  clear hb2
  go_wp2_with fail
  refine (char_any _ w2 HT2.out).mono ?_; rintro e w3 ⟨rfl, hb3⟩
  rw [L.out.2.2.1]
  have HT3 := Lib.hid (HT2.out.below hb3 HT2.out.size)
  have B3 := Lib.hid (B2.out.trans (hb3.mono B2.out.size))
  clear hb3
  go_wp2_with fail
  refine (start_any _ w3 HT3.out).mono ?_; rintro e w4 ⟨rfl, hb4⟩
  rw [L.out.2.2.2.1]
  have HT4 := Lib.hid (HT3.out.below hb4 HT3.out.size)
  have B4 := Lib.hid (B3.out.trans (hb4.mono B3.out.size))
  clear hb4
  go_wp2_with fail
  refine (start_any _ w4 HT4.out).mono ?_; rintro e w5 ⟨rfl, hb5⟩
  rw [L.out.2.2.2.2.1]
  have HT5 := Lib.hid (HT4.out.below hb5 HT4.out.size)
  have B5 := Lib.hid (B4.out.trans (hb5.mono B4.out.size))
  clear hb5
  go_wp2_with fail
  refine (name_any _ w5 HT5.out).mono ?_; rintro e w6 ⟨rfl, hb6⟩
  rw [L.out.2.2.2.2.2.1]
  have B6 := Lib.hid (B5.out.trans (hb6.mono B5.out.size))
  clear hb6
  go_wp2_with fail
  refine (digit_any _ _ _).mono ?_; rintro e w' ⟨rfl, rfl⟩
  rw [L.out.2.2.2.2.2.2]
  go_wp2_with fail
  go_ret
  exact ⟨rfl, B6.out⟩
end Go.Proofs.YtflljhlbnaeebaaDoor
