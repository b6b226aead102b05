/- The contracts of narthexref22.Norm and Match. Conditions: at most 2^20 bytes. -/
import Derived.Test.YtkneafpmgbgalaaGreatDoorAllow
namespace Go.Proofs.YtkneafpmgbgalaaGreatDoor
open Go.RowKit Go.Proofs.YtkneafpmgbgalaaGreatDoor.CharsPlain Go.Proofs.YtkneafpmgbgalaaGreatDoor.UriPlain
set_option linter.unusedVariables false
set_option linter.unusedSimpArgs false
def TellNorm3 (t : ByteArray) (b : Bool) (k : Int) (w : World) (e : Ending) (w' : World) : Prop := e = .returned (.tuple #[.string t, .bool b, .int .i64 k]) ∧ Below w.heap.size w w'
theorem extract_last (s : ByteArray) (j : Nat) : (s.extract j s.size).toList = s.data.toList.drop j := by
  rw [ByteArray.toList_eq, drop_extract]
theorem extract_take0 (s : ByteArray) (j : Nat) : s.extract 0 j = bS (s.data.toList.take j) := by
  rw [← bS_of (s.extract 0 j), extract_host]
set_option maxRecDepth 100000 in
set_option maxHeartbeats 1000000 in
theorem rnorm22_any (s : ByteArray) (w : World) (hs : s.size ≤ 1048576) : Calls Tryz.prog 31 #[.string s] w (TellNorm3 (bS (normU (patS s.data.toList))) (decide (anormE s.data.toList = 0) && belP s.data.toList) (anormE s.data.toList) w) := by
  obtain ⟨k, hk⟩ : ∃ k, k = anormE s.data.toList := ⟨_, rfl⟩
  obtain ⟨T, hT⟩ : ∃ T, T = bS (normU (patS s.data.toList)) := ⟨_, rfl⟩
  obtain ⟨P, hP⟩ : ∃ P, P = bS (patS s.data.toList) := ⟨_, rfl⟩
  have hPd : P.data.toList = patS s.data.toList := by rw [hP]; rfl
  have C1 := Lib.hid (fun w' => rnorm_is P T k w' (by rw [hPd, hT]) (by rw [hPd, hk]; rfl))
  rw [← hk, ← hT]
  have hPs : P.size ≤ 1048576 := by rw [hP, bS_size]; have := patS_len s.data.toList; rw [len3] at this; omega
  have HP := Lib.hid hP
  clear hk hT hP hPd
  by_cases h2 : 2 ≤ s.size
  · have t0 : (1 : Int) < (s.size : Int) := by omega
    have t1 : (2 : Int) ≤ (s.size : Int) := by omega
    have t2 : (0 : Int) ≤ (s.size : Int) - 2 := by omega
    have n2 : ((s.size : Int) - 2).toNat = s.size - 2 := by omega
    have n1 : ((s.size : Int) - 1).toNat = s.size - 1 := by omega
    have t3 : (1 : Int) ≤ (s.size : Int) := by omega
    have t4 : (0 : Int) ≤ (s.size : Int) - 1 := by omega
    have hd := belP_drop (l := s.data.toList) (by rw [len3]; exact h2)
    rw [len3, ← extract_last] at hd
    cases hb : belP s.data.toList with
    | true =>
      rw [hb] at hd
      have hpe : s.extract 0 (s.size - 1) = P := by rw [HP.out, extract_take0]; unfold patS; rw [if_pos hb, len3]
      have HPE := Lib.hid hpe
      clear hb hpe
      by_cases hk0 : k = 0
      · subst hk0
        go_enter Tryz.func31, Tryz.ntmps31
        go_wp2_with fail
        rw [HPE.out]
        refine (C1.out _).mono ?_
        rintro e w1 ⟨rfl, hb1⟩
        go_wp2
        go_ret3
        exact ⟨rfl, hb1⟩
      · have q1 : (k == 0) = false := by simpa using hk0
        have q2 : decide (k = 0) = false := by simpa using hk0
        go_enter Tryz.func31, Tryz.ntmps31
        go_wp2_with fail
        rw [HPE.out]
        refine (C1.out _).mono ?_
        rintro e w1 ⟨rfl, hb1⟩
        go_wp2
        go_ret3
        exact ⟨by rw [q2]; rfl, hb1⟩
    | false =>
      rw [hb] at hd
      have hpe : s = P := by rw [HP.out]; unfold patS; rw [if_neg (by rw [hb]; decide)]; rfl
      subst hpe
      clear hb
      go_enter Tryz.func31, Tryz.ntmps31
      go_wp2_with fail
      refine (C1.out _).mono ?_
      rintro e w1 ⟨rfl, hb1⟩
      go_wp2
      go_ret3
      exact ⟨by rw [Bool.and_false]; rfl, hb1⟩
  · have t0 : ¬ (1 : Int) < (s.size : Int) := by omega
    have hb : belP s.data.toList = false := by
      rw [Bool.eq_false_iff]; intro h; have := belP_two h; rw [len3] at this; omega
    have hpe : s = P := by rw [HP.out]; unfold patS; rw [if_neg (by rw [hb]; decide)]; rfl
    subst hpe
    rw [hb]
    clear hb h2
    go_enter Tryz.func31, Tryz.ntmps31
    go_wp2_with fail
    refine (C1.out _).mono ?_
    rintro e w1 ⟨rfl, hb1⟩
    go_wp2
    go_ret3
    exact ⟨by rw [Bool.and_false]; rfl, hb1⟩
theorem prefix_take {s t : List UInt8} (h : s.length ≤ t.length) : (t.take s.length == s) = Lib.hasPrefix t s := by
  unfold Lib.hasPrefix
  rw [Bool.eq_iff_iff, beq_iff_eq, List.isPrefixOf_iff_prefix]
  constructor
  · intro h1; rw [← h1]; exact List.take_prefix _ _
  · rintro ⟨r, hr⟩; rw [← hr, List.take_left]
set_option maxRecDepth 100000 in
set_option maxHeartbeats 1000000 in
theorem rmatch22_any (s t : ByteArray) (w : World) (hs : s.size ≤ 1048576) : Calls Tryz.prog 29 #[.string s, .string t] w (BelB (matchB s.data.toList t.data.toList) w) := by
  obtain ⟨T, hT⟩ : ∃ T, T = bS (normU t.data.toList) := ⟨_, rfl⟩
  obtain ⟨k, hk⟩ : ∃ k, k = uriE t.data.toList := ⟨_, rfl⟩
  obtain ⟨S, hS⟩ : ∃ S, S = bS (normU (patS s.data.toList)) := ⟨_, rfl⟩
  obtain ⟨j, hj⟩ : ∃ j, j = anormE s.data.toList := ⟨_, rfl⟩
  obtain ⟨b, hb⟩ : ∃ b, b = belP s.data.toList := ⟨_, rfl⟩
  have C1 := rnorm22_any s w hs
  rw [← hS, ← hj, ← hb] at C1
  have C1 := Lib.hid C1
  have C2 := Lib.hid (fun w' => rnorm_is t T k w' hT.symm hk.symm)
  have HR : Hid (matchB s.data.toList t.data.toList = (decide (k = 0) && hitB j b S.data.toList T.data.toList)) := by show _ = _; unfold matchB meanB; rw [hk, hT, hj, hb, hS]; rfl
  have hTs : T.size ≤ 12400 := by rw [hT, bS_size]; exact norm_size _
  have hSs : S.size ≤ 12400 := by rw [hS, bS_size]; exact norm_size _
  clear hT hk hS hj hb
  generalize matchB s.data.toList t.data.toList = M at HR ⊢
  by_cases hj0 : j = 0
  · subst hj0
    by_cases hk0 : k = 0
    · subst hk0
      cases b with
      | false =>
        have HF : Hid (M = (S.toList == T.toList)) := by
          show _ = _
          rw [HR.out]; unfold hitB; rw [ByteArray.toList_eq, ByteArray.toList_eq]
          simp; rw [Bool.eq_iff_iff]; simp; exact ⟨Eq.symm, Eq.symm⟩
        rw [HF.out]
        go_enter Tryz.func29, Tryz.ntmps29
        go_wp2_with fail
        refine C1.out.mono ?_
        rintro e w1 ⟨rfl, hb1⟩
        go_wp2_with fail
        refine (C2.out _).mono ?_
        rintro e w2 ⟨rfl, hb2⟩
        go_wp2
        go_ret
        exact ⟨ret_bool (by first | rfl | simp), hb1.trans (hb2.mono hb1.size)⟩
      | true =>
        by_cases hlt : S.size < T.size
        · have l1 : (S.size : Int) < (T.size : Int) := by omega
          have l2 : (S.size : Int) ≤ (T.size : Int) := by omega
          have HF : Hid (M = ((T.extract 0 S.size).toList == S.toList)) := by
            show _ = _
            rw [HR.out]; unfold hitB; rw [ByteArray.toList_eq, ByteArray.toList_eq, extract_host, ← len3 S, prefix_take (by rw [len3, len3]; omega), len3, len3]
            simp [hlt]
          rw [HF.out]
          go_enter Tryz.func29, Tryz.ntmps29
          go_wp2_with fail
          refine C1.out.mono ?_
          rintro e w1 ⟨rfl, hb1⟩
          go_wp2_with fail
          refine (C2.out _).mono ?_
          rintro e w2 ⟨rfl, hb2⟩
          go_wp2
          go_ret
          exact ⟨ret_bool (by first | rfl | simp), hb1.trans (hb2.mono hb1.size)⟩
        · have l1 : ¬ (S.size : Int) < (T.size : Int) := by omega
          have l2 : ¬ S.size < T.size := hlt
          have HF : Hid (M = false) := by
            show _ = _
            rw [HR.out]; unfold hitB; rw [len3, len3, decide_eq_false l2]; simp
          rw [HF.out]
          go_enter Tryz.func29, Tryz.ntmps29
          go_wp2_with fail
          refine C1.out.mono ?_
          rintro e w1 ⟨rfl, hb1⟩
          go_wp2_with fail
          refine (C2.out _).mono ?_
          rintro e w2 ⟨rfl, hb2⟩
          go_wp2
          go_ret
          exact ⟨rfl, hb1.trans (hb2.mono hb1.size)⟩
    · have q1 : (k == 0) = false := by simpa using hk0
      have HF : Hid (M = false) := by show _ = _; rw [HR.out, decide_eq_false hk0]; rfl
      rw [HF.out]
      go_enter Tryz.func29, Tryz.ntmps29
      go_wp2_with fail
      refine C1.out.mono ?_
      rintro e w1 ⟨rfl, hb1⟩
      go_wp2_with fail
      refine (C2.out _).mono ?_
      rintro e w2 ⟨rfl, hb2⟩
      go_wp2
      go_ret
      exact ⟨rfl, hb1.trans (hb2.mono hb1.size)⟩
  · have q1 : (j == 0) = false := by simpa using hj0
    have q2 : (decide (j = 0) && b) = false := by rw [decide_eq_false hj0]; rfl
    rw [q2] at C1
    have HF : Hid (M = false) := by show _ = _; rw [HR.out]; unfold hitB; rw [decide_eq_false hj0]; simp
    rw [HF.out]
    go_enter Tryz.func29, Tryz.ntmps29
    go_wp2_with fail
    refine C1.out.mono ?_
    rintro e w1 ⟨rfl, hb1⟩
    go_wp2_with fail
    refine (C2.out _).mono ?_
    rintro e w2 ⟨rfl, hb2⟩
    go_wp2
    go_ret
    exact ⟨rfl, hb1.trans (hb2.mono hb1.size)⟩
end Go.Proofs.YtkneafpmgbgalaaGreatDoor
