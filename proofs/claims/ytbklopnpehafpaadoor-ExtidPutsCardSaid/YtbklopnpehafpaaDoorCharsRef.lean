/- The contracts of the reference of layer 3 (narthexref03): each class, the digit, the classes' number. Conditions: integer arguments are any. -/
import Derived.Test.YtbklopnpehafpaaDoorPlainA
import Derived.Test.YtbklopnpehafpaaDoorProg
import Derived.WalkKit
import Derived.Outline
import Derived.WalkLawsBesides
import Derived.Lib.Hide
namespace Go.Proofs.YtbklopnpehafpaaDoor
open Go.RowKit Go.Proofs.YtbklopnpehafpaaDoor.CharsPlain
/-- 'returns the Bool b (the number n), and the world is as it was'. -/
def RetB (b : Bool) (w : World) (e : Ending) (w' : World) : Prop := e = .returned (.bool b) ∧ w = w'
def RetI (n : Int) (w : World) (e : Ending) (w' : World) : Prop := e = .returned (.int .i64 n) ∧ w = w'
theorem ret_bool {a b : Bool} (h : a = b) : Ending.returned (.bool a) = .returned (.bool b) := by rw [h]
theorem ret_int {k : IntKind} {a b : Int} (h : a = b) : Ending.returned (.int k a) = .returned (.int k b) := by rw [h]
set_option maxHeartbeats 400000 in
theorem rchar_any (r : Int) (w : World) : Calls Tryd.prog 66 #[.int .i64 r] w (RetB (isChar r) w) := by
  go_enter Tryd.func66, Tryd.ntmps66
  go_wp2
  all_goals
    go_ret
    exact ⟨ret_bool (by rw [Bool.eq_iff_iff]; simp [isChar]; omega), rfl⟩
theorem rblank_any (r : Int) (w : World) : Calls Tryd.prog 29 #[.int .i64 r] w (RetB (isBlank r) w) := by
  go_enter Tryd.func29, Tryd.ntmps29
  go_wp2
  all_goals
    go_ret
    exact ⟨ret_bool (by rw [Bool.eq_iff_iff]; simp [isBlank]; omega), rfl⟩
/-- The signs' text. -/
def signBytes : ByteArray := ⟨#[45, 39, 40, 41, 43, 44, 46, 47, 58, 61, 63, 59, 33, 42, 35, 64, 36, 95, 37]⟩
theorem sign_at (s : ByteArray) (hs : s = signBytes) (k : Nat) (hk : k < s.size) : ∃ z : Int, wrap64 (s[k].toNat : Int) = z ∧ signs[k]? = some z := by
  subst hs
  have h : ∀ k : Fin 19, signs[k.val]? = some (wrap64 ((signBytes.data.getD k.val 0).toNat : Int)) := by decide +kernel
  have hk' : k < 19 := hk
  refine ⟨_, rfl, ?_⟩
  rw [h ⟨k, hk'⟩]
  have e : signBytes.data.getD k 0 = signBytes[k] := by
    show _ = signBytes.data[k]
    rw [Array.getD_eq_getD_getElem?, Array.getElem?_eq_getElem (by exact hk)]; rfl
  rw [e]; rfl
set_option maxHeartbeats 1000000 in
theorem rpubid_yes (r : Int) (w : World) (h : isLetter r = true ∨ r = 32 ∨ r = 13 ∨ r = 10) : Calls Tryd.prog 67 #[.int .i64 r] w (RetB (isPubid r) w) := by
  have e : isPubid r = true := by
    unfold isPubid
    rcases h with h | h
    · simp [h]
    · simp [h]
  rw [e]
  clear e
  have h' : r = 32 ∨ r = 13 ∨ r = 10 ∨ (97 ≤ r ∧ r ≤ 122) ∨ (65 ≤ r ∧ r ≤ 90) ∨ (48 ≤ r ∧ r ≤ 57) := by
    simp only [isLetter, decide_eq_true_eq] at h; omega
  clear h
  rcases h' with h | h | h | ⟨h1, h2⟩ | ⟨h1, h2⟩ | ⟨h1, h2⟩
  all_goals
    (try subst h)
    go_enter Tryd.func67, Tryd.ntmps67
    go_wp2
    go_ret
    exact ⟨rfl, rfl⟩
set_option maxHeartbeats 1000000 in
theorem rpubid_no (r : Int) (w : World) (h : isLetter r = false) (h1 : r ≠ 32) (h2 : r ≠ 13) (h3 : r ≠ 10) : Calls Tryd.prog 67 #[.int .i64 r] w (RetB (isPubid r) w) := by
  have e : isPubid r = isSign r := by simp [isPubid, h, h1, h2, h3]
  rw [e]
  clear e
  have h' : (r < 48) ∨ (57 < r ∧ r < 65) ∨ (90 < r ∧ r < 97) ∨ (122 < r) := by
    simp only [isLetter, decide_eq_false_iff_not] at h; omega
  clear h
  have t1 : (r == 32) = false := by simp [h1]
  have t2 : (r == 13) = false := by simp [h2]
  have t3 : (r == 10) = false := by simp [h3]
  rcases h' with h4 | ⟨h4, h5⟩ | ⟨h4, h5⟩ | h4
  all_goals
    (try have q1 : decide (r ≤ 57) = false := by simp; omega)
    (try have q2 : decide (r ≤ 90) = false := by simp; omega)
    (try have q3 : decide (r ≤ 122) = false := by simp; omega)
    obtain ⟨s, hs⟩ : ∃ s, s = signBytes := ⟨_, rfl⟩
    have e : ({ data := #[45, 39, 40, 41, 43, 44, 46, 47, 58, 61, 63, 59, 33, 42, 35, 64, 36, 95, 37] } : ByteArray) = s := hs.symm
    have hsz : s.size = 19 := by rw [hs]; decide
    have E := Lib.hid e
    have HS := Lib.hid hs
    clear hs e
    go_enter Tryd.func67, Tryd.ntmps67
    go_wp2_with fail
    rw [E.out]
    go_loop [4] (fun i => ∃ k : Nat, k ≤ 19 ∧ i = .int .i64 k ∧ Hid (∀ j, j < k → signs[j]? ≠ some r)) (fun i => 19 - (intOf i).toNat)
    case atStart => exact ⟨0, by omega, rfl, fun j hj => by omega⟩
    case round =>
      obtain ⟨k, hk, rfl, HN⟩ := hrel
      by_cases hlt : k < 19
      · obtain ⟨z, hz, hz2⟩ := sign_at s HS.out k (by omega)
        have Z := Lib.hid hz2
        clear hz2
        by_cases hzr : z = r
        · have t4 : (z == r) = true := by simp [hzr]
          have e1 : isSign r = true := by
            rw [← hzr]; unfold isSign; rw [List.contains_iff_mem]; exact List.mem_of_getElem? Z.out
          clear hzr
          rw [e1]
          go_wp2
          go_ret
          exact ⟨rfl, rfl⟩
        · have t4 : (z == r) = false := by simp [hzr]
          have HN2 : Hid (∀ j, j < k + 1 → signs[j]? ≠ some r) := fun j hj => by
            by_cases e : j = k
            · subst e; rw [Z.out]; intro h; exact hzr (by injection h)
            · exact HN.out j (by omega)
          clear hzr HN
          go_wp2
          go_round
          case rel => exact ⟨k + 1, by omega, by go_num, HN2⟩
          case measure => simp [intOf]; omega
      · have e1 : isSign r = false := by
          cases h : isSign r with
          | false => rfl
          | true =>
            unfold isSign at h
            rw [List.contains_iff_mem] at h
            obtain ⟨j, hj⟩ := List.getElem?_of_mem h
            exact absurd hj (HN.out j (by have := (List.getElem?_eq_some_iff.1 hj).1; simp [signs] at this; omega))
        rw [e1]
        go_wp2
        go_ret
        exact ⟨rfl, rfl⟩

theorem rpubid_any (r : Int) (w : World) : Calls Tryd.prog 67 #[.int .i64 r] w (RetB (isPubid r) w) := by
  by_cases h : isLetter r = true ∨ r = 32 ∨ r = 13 ∨ r = 10
  · exact rpubid_yes r w h
  · exact rpubid_no r w (by cases e : isLetter r <;> simp_all) (by omega) (by omega) (by omega)
/-- The digits' two texts. -/
def lowBytes : ByteArray := ⟨#[48, 49, 50, 51, 52, 53, 54, 55, 56, 57, 97, 98, 99, 100, 101, 102]⟩
def upBytes : ByteArray := ⟨#[48, 49, 50, 51, 52, 53, 54, 55, 56, 57, 65, 66, 67, 68, 69, 70]⟩
theorem low_at (s : ByteArray) (hs : s = lowBytes) (k : Nat) (hk : k < s.size) : ∃ z : Int, wrap64 (s[k].toNat : Int) = z ∧ lowZ[k]? = some z := by
  subst hs
  have h : ∀ k : Fin 16, lowZ[k.val]? = some (wrap64 ((lowBytes.data.getD k.val 0).toNat : Int)) := by decide +kernel
  have hk' : k < 16 := hk
  refine ⟨_, rfl, ?_⟩
  rw [h ⟨k, hk'⟩]
  have e : lowBytes.data.getD k 0 = lowBytes[k] := by
    show _ = lowBytes.data[k]
    rw [Array.getD_eq_getD_getElem?, Array.getElem?_eq_getElem (by exact hk)]; rfl
  rw [e]; rfl
theorem up_at (s : ByteArray) (hs : s = upBytes) (k : Nat) (hk : k < s.size) : ∃ z : Int, wrap64 (s[k].toNat : Int) = z ∧ upZ[k]? = some z := by
  subst hs
  have h : ∀ k : Fin 16, upZ[k.val]? = some (wrap64 ((upBytes.data.getD k.val 0).toNat : Int)) := by decide +kernel
  have hk' : k < 16 := hk
  refine ⟨_, rfl, ?_⟩
  rw [h ⟨k, hk'⟩]
  have e : upBytes.data.getD k 0 = upBytes[k] := by
    show _ = upBytes.data[k]
    rw [Array.getD_eq_getD_getElem?, Array.getElem?_eq_getElem (by exact hk)]; rfl
  rw [e]; rfl
theorem rone_any (b : Bool) (w : World) : Calls Tryd.prog 65 #[.bool b] w (RetI (one b) w) := by
  cases b
  all_goals
    go_enter Tryd.func65, Tryd.ntmps65
    go_wp2
    go_ret
    exact ⟨rfl, rfl⟩
end Go.Proofs.YtbklopnpehafpaaDoor
