/- The contract of chars.Classes. Conditions: the three tables hold what the text gives them. -/
import Derived.Test.YtflljhlbnaeebaaDoorCharsMore
namespace Go.Proofs.YtflljhlbnaeebaaDoor
open Go.RowKit Go.Shelf Go.Proofs.YtflljhlbnaeebaaDoor.CharsPlain
/-- The number that the first k classes make. -/
def part (r : Int) : Nat → Int
  | 0 => 0
  | k + 1 => part r k + 2 ^ k * one (isK k r)
theorem part_five (r : Int) : part r 5 = classes r := by
  show 0 + 1 * one (isChar r) + 2 * one (isBlank r) + 4 * one (isStart r) + 8 * one (isName r) + 16 * one (isPubid r) = _
  unfold classes; omega
theorem part_b (r : Int) (k : Nat) : 0 ≤ part r k ∧ part r k < 2 ^ k := by
  induction k with
  | zero => simp [part]
  | succ k ih =>
    have := one_b (isK k r)
    have h2 : (0 : Int) < 2 ^ k := Int.pow_pos (by omega)
    have e : (2 : Int) ^ (k + 1) = 2 ^ k * 2 := Int.pow_succ 2 k
    have : one (isK k r) = 0 ∨ one (isK k r) = 1 := by omega
    simp only [part]
    rcases this with h | h <;> rw [h] <;> omega
theorem or_bit (k : Nat) (hk : k < 5) (p : Int) (h : 0 ≤ p ∧ p < 2 ^ k) : bits .or .i64 p (2 ^ k) = p + 2 ^ k := by
  have H : ∀ k : Fin 5, ∀ n : Fin 16, n.val < 2 ^ k.val → bits .or .i64 (n.val : Int) (2 ^ k.val) = n.val + 2 ^ k.val := by decide +kernel
  have h16 : (2 : Int) ^ k ≤ 16 := by
    have : k = 0 ∨ k = 1 ∨ k = 2 ∨ k = 3 ∨ k = 4 := by omega
    rcases this with rfl | rfl | rfl | rfl | rfl <;> decide
  have hlt : p.toNat < 2 ^ k := by
    have : ((2 ^ k : Nat) : Int) = (2 : Int) ^ k := by simp
    omega
  have := H ⟨k, hk⟩ ⟨p.toNat, by omega⟩ hlt
  simp only [Int.toNat_of_nonneg h.1] at this
  exact this
theorem part_yes (r : Int) (k : Nat) (hk : k < 5) (h : isK k r = true) : part r (k + 1) = bits .or .i64 (part r k) (2 ^ k) := by
  rw [or_bit k hk _ (part_b r k)]
  simp only [part, h]; simp [one]
theorem part_no (r : Int) (k : Nat) (h : isK k r = false) : part r (k + 1) = part r k := by simp only [part, h]; simp [one]
set_option maxHeartbeats 1000000 in
theorem classes_any (r : Int) (w : World) (ht : Tabs w) : Calls Tryd.prog 30 #[.int .i64 r] w (BelI (classes r) w) := by
  have HT := Lib.hid ht
  clear ht
  go_enter Tryd.func30, Tryd.ntmps30
  go_wp2_with fail
  refine (char_any r w HT.out).mono ?_
  rintro e w1 ⟨rfl, hb1⟩
  have HT1 := Lib.hid (HT.out.below hb1 HT.out.size)
  go_wp2_with fail
  refine (blank_any r w1).mono ?_
  rintro e w' ⟨rfl, rfl⟩
  go_wp2_with fail
  refine (start_any r w1 HT1.out).mono ?_
  rintro e w2 ⟨rfl, hb2⟩
  have HT2 := Lib.hid (HT1.out.below hb2 HT1.out.size)
  go_wp2_with fail
  refine (name_any r w2 HT2.out).mono ?_
  rintro e w3 ⟨rfl, hb3⟩
  go_wp2_with fail
  refine (pubid_any r w3).mono ?_
  rintro e w' ⟨rfl, rfl⟩
  have hb := Lib.hid (hb1.trans ((hb2.mono hb1.size).trans (hb3.mono (Nat.le_trans hb1.size hb2.size))))
  clear hb1 hb2 hb3
  have i0 : ∀ W, (Instr.index 70 (.agg #[.bool (isChar r), .bool (isBlank r), .bool (isStart r), .bool (isName r), .bool (isPubid r)]) (.int .i64 0)).run Tryd.prog W = .ok (.bool (isChar r)) W := fun _ => by kernel_rfl
  have i1 : ∀ W, (Instr.index 70 (.agg #[.bool (isChar r), .bool (isBlank r), .bool (isStart r), .bool (isName r), .bool (isPubid r)]) (.int .i64 1)).run Tryd.prog W = .ok (.bool (isBlank r)) W := fun _ => by kernel_rfl
  have i2 : ∀ W, (Instr.index 70 (.agg #[.bool (isChar r), .bool (isBlank r), .bool (isStart r), .bool (isName r), .bool (isPubid r)]) (.int .i64 2)).run Tryd.prog W = .ok (.bool (isStart r)) W := fun _ => by kernel_rfl
  have i3 : ∀ W, (Instr.index 70 (.agg #[.bool (isChar r), .bool (isBlank r), .bool (isStart r), .bool (isName r), .bool (isPubid r)]) (.int .i64 3)).run Tryd.prog W = .ok (.bool (isName r)) W := fun _ => by kernel_rfl
  have i4 : ∀ W, (Instr.index 70 (.agg #[.bool (isChar r), .bool (isBlank r), .bool (isStart r), .bool (isName r), .bool (isPubid r)]) (.int .i64 4)).run Tryd.prog W = .ok (.bool (isPubid r)) W := fun _ => by kernel_rfl
  go_wp2
  go_loop [3, 4, 5, 17] (fun n _ _ i => ∃ k : Nat, k ≤ 5 ∧ i = .int .i64 k ∧ n = .int .i64 (part r k)) (fun _ _ _ i => 5 - (intOf i).toNat)
  case atStart => exact ⟨0, by omega, rfl, rfl⟩
  case round =>
    obtain ⟨k, hk, rfl, rfl⟩ := hrel
    have hk' : k = 0 ∨ k = 1 ∨ k = 2 ∨ k = 3 ∨ k = 4 ∨ k = 5 := by omega
    clear hk
    rcases hk' with rfl | rfl | rfl | rfl | rfl | rfl
    rotate_right
    · go_wp2
      go_ret
      exact ⟨ret_int (part_five r), hb.out⟩
    · go_wp2
      all_goals
        go_round
        case rel => exact ⟨1, by omega, rfl, by first | (rw [part_yes r 0 (by omega) (by assumption)]; rfl) | (rw [part_no r 0 (by assumption)])⟩
        case measure => simp [intOf]
    · go_wp2
      all_goals
        go_round
        case rel => exact ⟨2, by omega, rfl, by first | (rw [part_yes r 1 (by omega) (by assumption)]; rfl) | (rw [part_no r 1 (by assumption)])⟩
        case measure => simp [intOf]
    · go_wp2
      all_goals
        go_round
        case rel => exact ⟨3, by omega, rfl, by first | (rw [part_yes r 2 (by omega) (by assumption)]; rfl) | (rw [part_no r 2 (by assumption)])⟩
        case measure => simp [intOf]
    · go_wp2
      all_goals
        go_round
        case rel => exact ⟨4, by omega, rfl, by first | (rw [part_yes r 3 (by omega) (by assumption)]; rfl) | (rw [part_no r 3 (by assumption)])⟩
        case measure => simp [intOf]
    · go_wp2
      all_goals
        go_round
        case rel => exact ⟨5, by omega, rfl, by first | (rw [part_yes r 4 (by omega) (by assumption)]; rfl) | (rw [part_no r 4 (by assumption)])⟩
        case measure => simp [intOf]
end Go.Proofs.YtflljhlbnaeebaaDoor
