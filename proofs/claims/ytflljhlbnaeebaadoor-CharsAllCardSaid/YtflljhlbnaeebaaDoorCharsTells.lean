/- The walk of the law CharsTells: it returns true for any two numbers. Conditions: the three tables hold what the text gives them. -/
import Derived.Test.YtflljhlbnaeebaaDoorCharsIs
namespace Go.Proofs.YtflljhlbnaeebaaDoor
open Go.RowKit Go.Shelf Go.Proofs.YtflljhlbnaeebaaDoor.CharsPlain
theorem enters_ask (k : Nat) (hk : k < 5) : ∀ (args : Array Value) (w : World), (callFunc (askF k) args).run Tryd.prog w = .ok (.enter (askF k) args) w := by
  have hk' : k = 0 ∨ k = 1 ∨ k = 2 ∨ k = 3 ∨ k = 4 := by omega
  clear hk
  rcases hk' with rfl | rfl | rfl | rfl | rfl
  · exact enters_of Tryd.func29 (by kernel_rfl) rfl
  · exact enters_of Tryd.func27 (by kernel_rfl) rfl
  · exact enters_of Tryd.func25 (by kernel_rfl) rfl
  · exact enters_of Tryd.func26 (by kernel_rfl) rfl
  · exact enters_of Tryd.func28 (by kernel_rfl) rfl
/-- What can be of the classes of one number. -/
theorem cases6 (r : Int) : (isStart r = true ∧ isName r = true ∧ isBlank r = true ∧ isChar r = true) ∨ (isStart r = true ∧ isName r = true ∧ isBlank r = false ∧ isChar r = true) ∨
    (isStart r = false ∧ isBlank r = true ∧ isChar r = true) ∨ (isStart r = false ∧ isBlank r = false ∧ isName r = true ∧ isChar r = true) ∨
    (isStart r = false ∧ isBlank r = false ∧ isName r = false ∧ isPubid r = true ∧ isChar r = true) ∨ (isStart r = false ∧ isBlank r = false ∧ isName r = false ∧ isPubid r = false) := by
  cases h1 : isStart r with
  | true =>
    have h2 := start_name r h1
    have h3 := start_char r h1
    cases h4 : isBlank r <;> simp [h2, h3]
  | false =>
    cases h4 : isBlank r with
    | true => have h3 := blank_char r h4; simp [h3]
    | false =>
      cases h5 : isName r with
      | true => have h3 := name_char r h5; simp [h3]
      | false =>
        cases h6 : isPubid r with
        | true => have h3 := pubid_char r h6; simp [h3]
        | false => simp
set_option maxHeartbeats 2000000 in
theorem tells_any (r b : Int) (w : World) (ht : Tabs w) : Calls Tryd.prog 6 #[.int .i64 r, .int .i64 b] w (BelB true w) := by
  have HT0 := Lib.hid ht
  clear ht
  go_enter Tryd.func6, Tryd.ntmps6
  go_wp2
  go_loopw [5] (fun i wr => (∃ k : Nat, k ≤ 5 ∧ i = .int .i64 k) ∧ Below w.heap.size w wr) (fun i _ => 5 - (intOf i).toNat)
  case atStart => exact ⟨⟨0, by omega, rfl⟩, Below.refl _ _⟩
  case round =>
    obtain ⟨⟨k, hk, rfl⟩, hb⟩ := hrel
    have B := Lib.hid hb
    have HT := Lib.hid (HT0.out.below hb HT0.out.size)
    clear hb
    by_cases hlt : k < 5
    · have t1 : (isK k r != isK k r) = false := by simp
      have eg := enters_ask k hlt
      go_wp2_with fail
      refine (ask_any k _ hlt).mono ?_; rintro e w' ⟨rfl, rfl⟩
      go_wp2_with fail
      refine (asked_any k r _ HT.out hlt).mono ?_; rintro e w1 ⟨rfl, hb1⟩
      replace B := Lib.hid (B.out.trans (hb1.mono B.out.size))
      clear hb1
      go_wp2_with fail
      refine (ris_any k r _ hlt).mono ?_; rintro e w' ⟨rfl, rfl⟩
      go_wp2
      go_roundw
      case rel => exact ⟨⟨k + 1, by omega, by go_num⟩, B.out⟩
      case measure => simp [intOf]; omega
    · obtain rfl : k = 5 := by omega
      have t2 : (classes r == classes r) = true := by simp
      have t3 : (digit r b == digit r b) = true := by simp
      rcases cases6 r with ⟨e1, e2, e3, e4⟩ | ⟨e1, e2, e3, e4⟩ | ⟨e1, e2, e3⟩ | ⟨e1, e2, e3, e4⟩ | ⟨e1, e2, e3, e4, e5⟩ | ⟨e1, e2, e3, e4⟩
      all_goals
        go_wp2_with (first | (go_at_call 25; refine (start_any r _ HT.out).mono ?_; rintro e w1 ⟨rfl, hb1⟩; replace B := Lib.hid (B.out.trans (hb1.mono B.out.size)); replace HT := Lib.hid (HT.out.below hb1 HT.out.size); clear hb1) | (go_at_call 26; refine (name_any r _ HT.out).mono ?_; rintro e w1 ⟨rfl, hb1⟩; replace B := Lib.hid (B.out.trans (hb1.mono B.out.size)); replace HT := Lib.hid (HT.out.below hb1 HT.out.size); clear hb1) | (go_at_call 27; refine (blank_any r _).mono ?_; rintro e w' ⟨rfl, rfl⟩) | (go_at_call 28; refine (pubid_any r _).mono ?_; rintro e w' ⟨rfl, rfl⟩) | (go_at_call 29; refine (char_any r _ HT.out).mono ?_; rintro e w1 ⟨rfl, hb1⟩; replace B := Lib.hid (B.out.trans (hb1.mono B.out.size)); replace HT := Lib.hid (HT.out.below hb1 HT.out.size); clear hb1) | (go_at_call 30; refine (classes_any r _ HT.out).mono ?_; rintro e w1 ⟨rfl, hb1⟩; replace B := Lib.hid (B.out.trans (hb1.mono B.out.size)); replace HT := Lib.hid (HT.out.below hb1 HT.out.size); clear hb1) | (go_at_call 31; refine (rclasses_any r _).mono ?_; rintro e w' ⟨rfl, rfl⟩) | (go_at_call 32; refine (digit_any r b _).mono ?_; rintro e w' ⟨rfl, rfl⟩) | (go_at_call 33; refine (rdigit_any r b _).mono ?_; rintro e w' ⟨rfl, rfl⟩) | (go_at_call 34; refine (live3_any _ HT.out).mono ?_; rintro e w1 ⟨rfl, hb1⟩; replace B := Lib.hid (B.out.trans (hb1.mono B.out.size)); replace HT := Lib.hid (HT.out.below hb1 HT.out.size); clear hb1))
        go_ret
        exact ⟨rfl, B.out⟩
end Go.Proofs.YtflljhlbnaeebaaDoor
