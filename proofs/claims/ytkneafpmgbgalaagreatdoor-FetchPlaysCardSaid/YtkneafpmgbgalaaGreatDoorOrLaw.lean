/- The walk of OracleFinds. Conditions: internal/bytealg.MaxLen holds an int. -/
import Derived.Test.YtkneafpmgbgalaaGreatDoorOrSame
namespace Go.Proofs.YtkneafpmgbgalaaGreatDoor
open Go.RowKit Go.Maps Go.Proofs.YtkneafpmgbgalaaGreatDoor.UriPlain
set_option linter.unusedVariables false
set_option linter.unusedSimpArgs false
def greatA (l : List An) : Bool := (l.take 300).any (fun x => decide (200 < x.id.size) || decide (2000 < x.n)) || (decide (12 < l.length) && decide (l.length < 257) || decide (260 < l.length))
theorem greatA_no {l : List An} (h : greatA l = false) : l.length ≤ 260 ∧ ∀ x ∈ l, x.id.size ≤ 200 ∧ x.n ≤ 2000 := by
  unfold greatA at h
  simp only [Bool.or_eq_false_iff, Bool.and_eq_false_iff, decide_eq_false_iff_not] at h
  have hl : l.length ≤ 260 := by omega
  refine ⟨hl, fun x hx => ?_⟩
  rw [List.take_of_length_le (by omega), List.any_eq_false] at h
  have := h.1 x hx
  simp only [Bool.or_eq_true, decide_eq_true_eq, not_or] at this
  omega
set_option maxRecDepth 100000 in
set_option maxHeartbeats 4000000 in
theorem great23_any (A : Option Addr) (n cp : Nat) (l : List An) (w : World) (hn : n ≤ 9223372036854775807) (hs : AnsAt w A n l) :
    Calls Tryz.prog 18 #[.slice A n cp] w (RetB (greatA l) w) := by
  obtain rfl := hs.1
  have HS := Lib.hid hs
  obtain ⟨b, hb⟩ : ∃ b, b = greatA l := ⟨_, rfl⟩
  rw [← hb]
  unfold greatA at hb
  have HBB := Lib.hid hb
  clear hs hb
  go_enter Tryz.func18, Tryz.ntmps18
  go_wp2
  go_loop [3] (fun v3 => ∃ k : Nat, k ≤ l.length ∧ k ≤ 300 ∧ v3 = .int .i64 k ∧ Hid ((l.take k).any (fun x => decide (200 < x.id.size) || decide (2000 < x.n)) = false)) (fun v3 => l.length - (intOf v3).toNat)
  case atStart => exact ⟨0, Nat.zero_le _, by omega, rfl, rfl⟩
  case round =>
    obtain ⟨k, hk, hk2, rfl, HN⟩ := hrel
    by_cases hlt : k < l.length
    · by_cases h80 : k < 300
      · obtain ⟨a, x, rfl, hx, ⟨-, h0, h1, h2⟩, -⟩ := HS.out.2 k hlt
        have e0 : (0 : Int) ≤ (k : Int) := by omega
        have e1 : (k : Int) < (l.length : Int) := by omega
        have e2 : (k : Int) < 300 := by omega
        have hst : (l.take (k + 1)).any (fun x => decide (200 < x.id.size) || decide (2000 < x.n)) = ((l.take k).any (fun x => decide (200 < x.id.size) || decide (2000 < x.n)) || (decide (200 < x.id.size) || decide (2000 < x.n))) := by
          rw [List.take_add_one, hx, List.any_append]; simp
        rw [HN.out, Bool.false_or] at hst
        have hyes : (decide (200 < x.id.size) || decide (2000 < x.n)) = true → b = true := by
          intro h
          rw [h] at hst
          rw [HBB.out]
          have : (l.take 300).any (fun x => decide (200 < x.id.size) || decide (2000 < x.n)) = true := by
            rw [List.any_eq_true] at hst ⊢
            obtain ⟨y, hy, hy2⟩ := hst
            exact ⟨y, List.mem_of_mem_take (show y ∈ (l.take 300).take (k + 1) by rw [List.take_take, Nat.min_eq_left (by omega)]; exact hy), hy2⟩
          rw [this]; rfl
        have HYES := Lib.hid hyes
        by_cases hg : 200 < x.id.size
        · have hb := Lib.hid (HYES.out (by rw [decide_eq_true hg]; rfl))
          have g1 : (200 : Int) < (x.id.size : Int) := by omega
          clear hst hx hg hyes
          go_wp2
          go_ret
          rw [hb.out]
          exact ⟨rfl, rfl⟩
        · have g1 : ¬ (200 : Int) < (x.id.size : Int) := by omega
          by_cases hg2 : 2000 < x.n
          · have hb := Lib.hid (HYES.out (by rw [decide_eq_true hg2, Bool.or_true]))
            have g2 : (2000 : Int) < (x.n : Int) := by omega
            clear hst hx hg hyes hg2
            go_wp2
            go_ret
            rw [hb.out]
            exact ⟨rfl, rfl⟩
          · have g2 : ¬ (2000 : Int) < (x.n : Int) := by omega
            rw [decide_eq_false hg, decide_eq_false hg2] at hst
            have HN2 := Lib.hid hst
            clear hst hx hg hyes hg2
            go_wp2
            go_round
            case rel => exact ⟨k + 1, by omega, by omega, by go_num, HN2⟩
            case measure => simp [intOf]; omega
      · obtain rfl : k = 300 := by omega
        have hb : Hid (b = true) := by
          show _ = _
          rw [HBB.out, decide_eq_true (show 260 < l.length by omega), Bool.or_true, Bool.or_true]
        have e1 : (300 : Int) < (l.length : Int) := by omega
        have e2 : (12 : Int) < (l.length : Int) := by omega
        have e3 : ¬ (l.length : Int) < 257 := by omega
        have e4 : (260 : Int) < (l.length : Int) := by omega
        go_wp2
        go_ret
        rw [hb.out]
        exact ⟨rfl, rfl⟩
    · obtain rfl : k = l.length := by omega
      have hb : b = (decide (12 < l.length) && decide (l.length < 257) || decide (260 < l.length)) := by
        rw [HBB.out]
        have : (l.take 300).any (fun x => decide (200 < x.id.size) || decide (2000 < x.n)) = false := by
          have h := HN.out
          rw [List.take_length] at h
          rw [List.take_of_length_le (by omega)]; exact h
        rw [this, Bool.false_or]
      have HB2 := Lib.hid hb
      clear hb
      by_cases q1 : 12 < l.length
      · have e2 : (12 : Int) < (l.length : Int) := by omega
        by_cases q2 : l.length < 257
        · have e3 : (l.length : Int) < 257 := by omega
          have hb : Hid (b = true) := by show _ = _; rw [HB2.out, decide_eq_true q1, decide_eq_true q2]; rfl
          clear q1 q2
          go_wp2
          go_ret
          rw [hb.out]
          exact ⟨rfl, rfl⟩
        · have e3 : ¬ (l.length : Int) < 257 := by omega
          by_cases q3 : 260 < l.length
          · have e4 : (260 : Int) < (l.length : Int) := by omega
            have hb : Hid (b = true) := by show _ = _; rw [HB2.out, decide_eq_true q3, Bool.or_true]
            clear q1 q2 q3
            go_wp2
            go_ret
            rw [hb.out]
            exact ⟨rfl, rfl⟩
          · have e4 : ¬ (260 : Int) < (l.length : Int) := by omega
            have hb : Hid (b = false) := by show _ = _; rw [HB2.out, decide_eq_false q3, decide_eq_false q2, Bool.and_false]; rfl
            clear q1 q2 q3
            go_wp2
            go_ret
            rw [hb.out]
            exact ⟨rfl, rfl⟩
      · have e2 : ¬ (12 : Int) < (l.length : Int) := by omega
        have e4 : ¬ (260 : Int) < (l.length : Int) := by omega
        have hb : Hid (b = false) := by show _ = _; rw [HB2.out, decide_eq_false q1, decide_eq_false (show ¬ 260 < l.length by omega)]; rfl
        clear q1
        go_wp2
        go_ret
        rw [hb.out]
        exact ⟨rfl, rfl⟩
end Go.Proofs.YtkneafpmgbgalaaGreatDoor
