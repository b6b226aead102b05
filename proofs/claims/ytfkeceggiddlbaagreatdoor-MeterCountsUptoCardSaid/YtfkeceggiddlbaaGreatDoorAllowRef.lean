/- The contracts of narthexref22.Norm and Match. Conditions: at most 2^20 bytes. -/
import Derived.Test.YtfkeceggiddlbaaGreatDoorAllow
namespace Go.Proofs.YtfkeceggiddlbaaGreatDoor
open Go.RowKit Go.Proofs.YtfkeceggiddlbaaGreatDoor.CharsPlain Go.Proofs.YtfkeceggiddlbaaGreatDoor.UriPlain
set_option linter.unusedVariables false
set_option linter.unusedSimpArgs false
def TellNorm3 (t : ByteArray) (b : Bool) (k : Int) (w : World) (e : Ending) (w' : World) : Prop := e = .returned (.tuple #[.string t, .bool b, .int .i64 k]) ∧ Below w.heap.size w w'
theorem extract_last (s : ByteArray) (j : Nat) : (s.extract j s.size).toList = s.data.toList.drop j := by
  rw [ByteArray.toList_eq, drop_extract]
theorem extract_take0 (s : ByteArray) (j : Nat) : s.extract 0 j = bS (s.data.toList.take j) := by
  rw [← bS_of (s.extract 0 j), extract_host]
set_option maxRecDepth 100000 in
set_option maxHeartbeats 1000000 in
theorem rnorm22_any (s : ByteArray) (w : World) (hs : s.size ≤ 1048576) : Calls Tryz.prog 36 #[.string s] w (TellNorm3 (bS (normU (patS s.data.toList))) (decide (anormE s.data.toList = 0) && belP s.data.toList) (anormE s.data.toList) w) := by
  obtain ⟨k, hk⟩ : ∃ k, k = anormE s.data.toList := ⟨_, rfl⟩
  obtain ⟨T, hT⟩ : ∃ T, T = bS (normU (patS s.data.toList)) := ⟨_, rfl⟩
  obtain ⟨P, hP⟩ : ∃ P, P = bS (patS s.data.toList) := ⟨_, rfl⟩
  have hPd : P.data.toList = patS s.data.toList := by rw [hP]; rfl
  have C1 := Lib.hid (fun w' => rnorm_is P T k w' (by rw [hPd, hT]) (by rw [hPd, hk]; rfl))
  rw [← hk, ← hT]
  have hPs : P.size ≤ 1048576 := by rw [hP, bS_size]; have := patS_len s.data.toList; rw [len3] at this; omega
  have HP := Lib.hid hP
  clear hk hT hP hPd
  by_cases h2 : 2 ≤ s.size
  · have t0 : (1 : Int) < (s.size : Int) := by omega
    have t1 : (2 : Int) ≤ (s.size : Int) := by omega
    have t2 : (0 : Int) ≤ (s.size : Int) - 2 := by omega
    have n2 : ((s.size : Int) - 2).toNat = s.size - 2 := by omega
    have n1 : ((s.size : Int) - 1).toNat = s.size - 1 := by omega
    have t3 : (1 : Int) ≤ (s.size : Int) := by omega
    have t4 : (0 : Int) ≤ (s.size : Int) - 1 := by omega
    have hd := belP_drop (l := s.data.toList) (by rw [len3]; exact h2)
    rw [len3, ← extract_last] at hd
    cases hb : belP s.data.toList with
    | true =>
      rw [hb] at hd
      have hpe : s.extract 0 (s.size - 1) = P := by rw [HP.out, extract_take0]; unfold patS; rw [if_pos hb, len3]
      have HPE := Lib.hid hpe
      clear hb hpe
      by_cases hk0 : k = 0
      · subst hk0
        go_enter Tryz.func36, Tryz.ntmps36
        go_wp2_with fail
        rw [HPE.out]
        refine (C1.out _).mono ?_
        rintro e w1 ⟨rfl, hb1⟩
        go_wp2
        go_ret3
        exact ⟨rfl, hb1⟩
      · have q1 : (k == 0) = false := by simpa using hk0
        have q2 : decide (k = 0) = false := by simpa using hk0
        go_enter Tryz.func36, Tryz.ntmps36
        go_wp2_with fail
        rw [HPE.out]
        refine (C1.out _).mono ?_
        rintro e w1 ⟨rfl, hb1⟩
        go_wp2
        go_ret3
        exact ⟨by rw [q2]; rfl, hb1⟩
    | false =>
      rw [hb] at hd
      have hpe : s = P := by rw [HP.out]; unfold patS; rw [if_neg (by rw [hb]; decide)]; rfl
      subst hpe
      clear hb
      go_enter Tryz.func36, Tryz.ntmps36
      go_wp2_with fail
      refine (C1.out _).mono ?_
      rintro e w1 ⟨rfl, hb1⟩
      go_wp2
      go_ret3
      exact ⟨by rw [Bool.and_false]; rfl, hb1⟩
  · have t0 : ¬ (1 : Int) < (s.size : Int) := by omega
    have hb : belP s.data.toList = false := by
      rw [Bool.eq_false_iff]; intro h; have := belP_two h; rw [len3] at this; omega
    have hpe : s = P := by rw [HP.out]; unfold patS; rw [if_neg (by rw [hb]; decide)]; rfl
    subst hpe
    rw [hb]
    clear hb h2
    go_enter Tryz.func36, Tryz.ntmps36
    go_wp2_with fail
    refine (C1.out _).mono ?_
    rintro e w1 ⟨rfl, hb1⟩
    go_wp2
    go_ret3
    exact ⟨by rw [Bool.and_false]; rfl, hb1⟩
theorem prefix_take {s t : List UInt8} (h : s.length ≤ t.length) : (t.take s.length == s) = Lib.hasPrefix t s := by
  unfold Lib.hasPrefix
  rw [Bool.eq_iff_iff, beq_iff_eq, List.isPrefixOf_iff_prefix]
  constructor
  · intro h1; rw [← h1]; exact List.take_prefix _ _
  · rintro ⟨r, hr⟩; rw [← hr, List.take_left]
end Go.Proofs.YtfkeceggiddlbaaGreatDoor
