/- The walk of DiffPaths. Conditions: the events count together at most 2^20. -/
import Derived.Test.YtdhgkbghlkhfeaaDiffLive
import Derived.Test.YtdhgkbghlkhfeaaDiffRFind
import Derived.Test.YtdhgkbghlkhfeaaDiffText
namespace Go.Proofs.Ytdhgkbghlkhfeaa
open Go.RowKit
set_option linter.unusedVariables false
/-- What both Spans tell at any place. -/
def spanI (l : List Ev) (n : Nat) (at' : Int) : Int × Int := if at' < 0 ∨ (n : Int) ≤ at' then (0, 3) else spanR l at'.toNat
theorem span_i (A : Option Addr) (n c : Nat) (l : List Ev) (at' : Int) (w : World) (hl : EvsAt w A n l) (hn : n ≤ 1048576) (hc : n ≤ c) :
    Calls Try.prog 9 #[.slice A n c, .int .i64 at'] w (TellSpan (spanI l n at') w) := by
  unfold spanI
  by_cases h : at' < 0 ∨ (n : Int) ≤ at'
  · rw [if_pos h]; exact span_range A n c at' w (by omega) h
  · rw [if_neg h]
    obtain ⟨k, rfl⟩ := Int.eq_ofNat_of_zero_le (show 0 ≤ at' by omega)
    have hk : k < l.length := by rw [hl.1]; omega
    exact span_any A n c l k l[k] w hl (by omega) hc (List.getElem?_eq_getElem hk)
theorem rspan_i (A : Option Addr) (n c : Nat) (l : List Ev) (at' : Int) (w : World) (hl : EvsAt w A n l) (hn : n ≤ 1048576) :
    Calls Try.prog 17 #[.slice A n c, .int .i64 at'] w (TellSpan (spanI l n at') w) := by
  unfold spanI
  by_cases h : at' < 0 ∨ (n : Int) ≤ at'
  · rw [if_pos h]; exact rspan_range A n c at' w (by omega) h
  · rw [if_neg h]
    obtain ⟨k, rfl⟩ := Int.eq_ofNat_of_zero_le (show 0 ≤ at' by omega)
    have hk : k < l.length := by rw [hl.1]; omega
    exact rspan_any A n c l k l[k] w hl hn (List.getElem?_eq_getElem hk)
set_option maxHeartbeats 8000000 in
theorem paths_great (A : Option Addr) (n c : Nat) (l : List Ev) (at' : Int) (A' : Option Addr) (n' c' : Nat) (path : List ByteArray) (w : World) (hl : EvsAt w A n l) (hp : StrsAt w A' n' path) (hn : n ≤ 1048576) (hc : n ≤ c) (hc2 : c ≤ 9223372036854775807) (hs : evSum l ≤ 1048576) (h1 : greatB n l = true ∨ 20 < n') :
    Calls Try.prog 5 #[.slice A n c, .int .i64 at', .slice A' n' c'] w (BelB true w) := by
  have L := Lib.hid hl
  clear hl
  have G1 := Lib.hid (great_any A n c l w L.out (by omega))
  cases hg : greatB n l with
  | true =>
    have H1 := Lib.hid hg
    clear hg h1
    go_enter Try.func5, Try.ntmps5
    go_wp2_with fail
    refine G1.out.mono ?_
    rintro x w1 ⟨rfl, hC⟩
    rw [H1.out]
    go_wp2_with fail
    refine (live42_any _).mono ?_
    rintro x w9 ⟨rfl, hB9⟩
    go_wp2
    go_ret
    exact ⟨rfl, hC.trans (hB9.mono hC.size)⟩
  | false =>
    have H1 := Lib.hid hg
    have h2 : 20 < n' := by rcases h1 with h | h; rw [hg] at h; cases h; exact h
    have c1 : (20 : Int) < (n' : Int) := by omega
    clear hg h1
    go_enter Try.func5, Try.ntmps5
    go_wp2_with fail
    refine G1.out.mono ?_
    rintro x w1 ⟨rfl, hC⟩
    rw [H1.out]
    go_wp2_with fail
    refine (live42_any _).mono ?_
    rintro x w9 ⟨rfl, hB9⟩
    go_wp2
    go_ret
    exact ⟨rfl, hC.trans (hB9.mono hC.size)⟩
set_option maxHeartbeats 8000000 in
theorem paths_out (A : Option Addr) (n c : Nat) (l : List Ev) (at' : Int) (A' : Option Addr) (n' c' : Nat) (path : List ByteArray) (w : World) (hl : EvsAt w A n l) (hp : StrsAt w A' n' path) (hn : n ≤ 1048576) (hc : n ≤ c) (hc2 : c ≤ 9223372036854775807) (hs : evSum l ≤ 1048576) (h1 : greatB n l = false) (h2 : n' ≤ 20) (ho : at' < 0 ∨ (n : Int) < at') :
    Calls Try.prog 5 #[.slice A n c, .int .i64 at', .slice A' n' c'] w (BelB true w) := by
  have L := Lib.hid hl
  have PA := Lib.hid hp
  have G1 := Lib.hid (great_any A n c l w L.out (by omega))
  have H1 := Lib.hid h1
  have c1 : ¬ (20 : Int) < (n' : Int) := by omega
  clear hl hp h1
  obtain ⟨⟨s1, s2⟩, hsi⟩ : ∃ p, spanI l n at' = p := ⟨_, rfl⟩
  have SI := Lib.hid hsi
  obtain ⟨fk, hfk⟩ : ∃ p, findK l path n = p := ⟨_, rfl⟩
  have FK := Lib.hid hfk
  have fkl : fk.length ≤ n := by rw [← hfk]; exact findK_len l path n
  obtain ⟨tk, htk⟩ : ∃ p, textK l n = p := ⟨_, rfl⟩
  have TK := Lib.hid htk
  clear hsi hfk htk
  have q : (decide (at' < 0) || decide ((n : Int) < at')) = true := by simpa using ho
  rcases ho with ho | ho
  · have o1 : decide (at' < 0) = true := by simpa using ho
    have HO : Hid (at' < 0 ∨ (n : Int) < at') := .inl ho
    clear ho q
    go_enter Try.func5, Try.ntmps5
    go_wp2_with fail
    refine G1.out.mono ?_
    rintro x w1 ⟨rfl, hC⟩
    rw [H1.out]
    go_wp2_with fail
    refine (span_i A n c l at' w1 (L.out.below hC) hn hc).mono ?_
    rintro x w2 ⟨rfl, hB2⟩
    rw [SI.out]
    have hC := hC.trans (hB2.mono hC.size)
    go_wp2_with fail
    refine (rspan_i A n c l at' w2 (L.out.below hC) hn).mono ?_
    rintro x w3 ⟨rfl, hB3⟩
    rw [SI.out]
    have hC := hC.trans (hB3.mono hC.size)
    go_wp2_with fail
    refine (find_any A n c l A' n' c' path w3 (L.out.below hC) (by omega) (PA.out.below hC)).mono ?_
    rintro x w4 ⟨A4, c4, rfl, hI4, hB4⟩
    rw [FK.out] at hI4 ⊢
    have hC := hC.trans (hB4.mono hC.size)
    have I4 := Lib.hid hI4
    clear hI4 hB2 hB3 hB4
    go_wp2_with fail
    refine (rfind_any A n c l A' n' c' path w4 (L.out.below hC) hn (PA.out.below hC)).mono ?_
    rintro x w5 ⟨A5, c5, rfl, hI5, hB5⟩
    rw [FK.out] at hI5 ⊢
    have hC := hC.trans (hB5.mono hC.size)
    have I5 := Lib.hid hI5
    have I45 := Lib.hid (I4.out.below hB5)
    clear hI5 hB5
    go_wp2_with fail
    refine (ints_any A4 _ c4 fk A5 _ c5 fk w5 I45.out I5.out (by omega)).mono ?_
    rintro x w6 ⟨rfl, d6, rfl⟩
    rw [decide_eq_true (rfl : fk = fk)]
    have hC := hC.trans (below_drewN _ _ d6)
    generalize w5.drewN d6 = W6 at *
    go_wp2_with fail
    refine (textD_any A n c l W6 (L.out.below hC) hs (by omega)).mono ?_
    rintro x w7 ⟨rfl, hB7⟩
    rw [TK.out]
    have hC := hC.trans (hB7.mono hC.size)
    clear hB7
    go_wp2_with fail
    refine (rtextD_any A n c l w7 (L.out.below hC) hs (by omega)).mono ?_
    rintro x w8 ⟨rfl, hB8⟩
    rw [TK.out]
    have hC := hC.trans (hB8.mono hC.size)
    clear hB8
    go_wp2_with fail
    refine (path_range A n c at' w8 (by omega) HO.out).mono ?_
    rintro x w10 ⟨rfl, rfl⟩
    go_wp2_with fail
    refine (live42_any _).mono ?_
    rintro x w9 ⟨rfl, hB9⟩
    go_wp2
    go_ret
    exact ⟨rfl, hC.trans (hB9.mono hC.size)⟩
  · have o1 : decide (at' < 0) = false := by simp; omega
    have o2 : decide ((n : Int) < at') = true := by simpa using ho
    have HO : Hid (at' < 0 ∨ (n : Int) < at') := .inr ho
    clear ho q
    go_enter Try.func5, Try.ntmps5
    go_wp2_with fail
    refine G1.out.mono ?_
    rintro x w1 ⟨rfl, hC⟩
    rw [H1.out]
    go_wp2_with fail
    refine (span_i A n c l at' w1 (L.out.below hC) hn hc).mono ?_
    rintro x w2 ⟨rfl, hB2⟩
    rw [SI.out]
    have hC := hC.trans (hB2.mono hC.size)
    go_wp2_with fail
    refine (rspan_i A n c l at' w2 (L.out.below hC) hn).mono ?_
    rintro x w3 ⟨rfl, hB3⟩
    rw [SI.out]
    have hC := hC.trans (hB3.mono hC.size)
    go_wp2_with fail
    refine (find_any A n c l A' n' c' path w3 (L.out.below hC) (by omega) (PA.out.below hC)).mono ?_
    rintro x w4 ⟨A4, c4, rfl, hI4, hB4⟩
    rw [FK.out] at hI4 ⊢
    have hC := hC.trans (hB4.mono hC.size)
    have I4 := Lib.hid hI4
    clear hI4 hB2 hB3 hB4
    go_wp2_with fail
    refine (rfind_any A n c l A' n' c' path w4 (L.out.below hC) hn (PA.out.below hC)).mono ?_
    rintro x w5 ⟨A5, c5, rfl, hI5, hB5⟩
    rw [FK.out] at hI5 ⊢
    have hC := hC.trans (hB5.mono hC.size)
    have I5 := Lib.hid hI5
    have I45 := Lib.hid (I4.out.below hB5)
    clear hI5 hB5
    go_wp2_with fail
    refine (ints_any A4 _ c4 fk A5 _ c5 fk w5 I45.out I5.out (by omega)).mono ?_
    rintro x w6 ⟨rfl, d6, rfl⟩
    rw [decide_eq_true (rfl : fk = fk)]
    have hC := hC.trans (below_drewN _ _ d6)
    generalize w5.drewN d6 = W6 at *
    go_wp2_with fail
    refine (textD_any A n c l W6 (L.out.below hC) hs (by omega)).mono ?_
    rintro x w7 ⟨rfl, hB7⟩
    rw [TK.out]
    have hC := hC.trans (hB7.mono hC.size)
    clear hB7
    go_wp2_with fail
    refine (rtextD_any A n c l w7 (L.out.below hC) hs (by omega)).mono ?_
    rintro x w8 ⟨rfl, hB8⟩
    rw [TK.out]
    have hC := hC.trans (hB8.mono hC.size)
    clear hB8
    go_wp2_with fail
    refine (path_range A n c at' w8 (by omega) HO.out).mono ?_
    rintro x w10 ⟨rfl, rfl⟩
    go_wp2_with fail
    refine (live42_any _).mono ?_
    rintro x w9 ⟨rfl, hB9⟩
    go_wp2
    go_ret
    exact ⟨rfl, hC.trans (hB9.mono hC.size)⟩
set_option maxHeartbeats 8000000 in
theorem paths_in (A : Option Addr) (n c : Nat) (l : List Ev) (at' : Int) (A' : Option Addr) (n' c' : Nat) (path : List ByteArray) (w : World) (hl : EvsAt w A n l) (hp : StrsAt w A' n' path) (hn : n ≤ 1048576) (hc : n ≤ c) (hc2 : c ≤ 9223372036854775807) (hs : evSum l ≤ 1048576) (h1 : greatB n l = false) (h2 : n' ≤ 20) (k0 : Nat) (hk0 : at' = k0) (hk : k0 ≤ n) :
    Calls Try.prog 5 #[.slice A n c, .int .i64 at', .slice A' n' c'] w (BelB true w) := by
  have L := Lib.hid hl
  have PA := Lib.hid hp
  have G1 := Lib.hid (great_any A n c l w L.out (by omega))
  have H1 := Lib.hid h1
  have c1 : ¬ (20 : Int) < (n' : Int) := by omega
  clear hl hp h1
  obtain ⟨⟨s1, s2⟩, hsi⟩ : ∃ p, spanI l n at' = p := ⟨_, rfl⟩
  have SI := Lib.hid hsi
  obtain ⟨fk, hfk⟩ : ∃ p, findK l path n = p := ⟨_, rfl⟩
  have FK := Lib.hid hfk
  have fkl : fk.length ≤ n := by rw [← hfk]; exact findK_len l path n
  obtain ⟨tk, htk⟩ : ∃ p, textK l n = p := ⟨_, rfl⟩
  have TK := Lib.hid htk
  clear hsi hfk htk
  subst hk0
  have o1 : ¬ ((k0 : Int) < 0) := by omega
  have o2 : ¬ n < k0 := by omega
  go_enter Try.func5, Try.ntmps5
  go_wp2_with fail
  refine G1.out.mono ?_
  rintro x w1 ⟨rfl, hC⟩
  rw [H1.out]
  go_wp2_with fail
  refine (span_i A n c l (k0 : Int) w1 (L.out.below hC) hn hc).mono ?_
  rintro x w2 ⟨rfl, hB2⟩
  rw [SI.out]
  have hC := hC.trans (hB2.mono hC.size)
  go_wp2_with fail
  refine (rspan_i A n c l (k0 : Int) w2 (L.out.below hC) hn).mono ?_
  rintro x w3 ⟨rfl, hB3⟩
  rw [SI.out]
  have hC := hC.trans (hB3.mono hC.size)
  go_wp2_with fail
  refine (find_any A n c l A' n' c' path w3 (L.out.below hC) (by omega) (PA.out.below hC)).mono ?_
  rintro x w4 ⟨A4, c4, rfl, hI4, hB4⟩
  rw [FK.out] at hI4 ⊢
  have hC := hC.trans (hB4.mono hC.size)
  have I4 := Lib.hid hI4
  clear hI4 hB2 hB3 hB4
  go_wp2_with fail
  refine (rfind_any A n c l A' n' c' path w4 (L.out.below hC) hn (PA.out.below hC)).mono ?_
  rintro x w5 ⟨A5, c5, rfl, hI5, hB5⟩
  rw [FK.out] at hI5 ⊢
  have hC := hC.trans (hB5.mono hC.size)
  have I5 := Lib.hid hI5
  have I45 := Lib.hid (I4.out.below hB5)
  clear hI5 hB5
  go_wp2_with fail
  refine (ints_any A4 _ c4 fk A5 _ c5 fk w5 I45.out I5.out (by omega)).mono ?_
  rintro x w6 ⟨rfl, d6, rfl⟩
  rw [decide_eq_true (rfl : fk = fk)]
  have hC := hC.trans (below_drewN _ _ d6)
  generalize w5.drewN d6 = W6 at *
  go_wp2_with fail
  refine (textD_any A n c l W6 (L.out.below hC) hs (by omega)).mono ?_
  rintro x w7 ⟨rfl, hB7⟩
  rw [TK.out]
  have hC := hC.trans (hB7.mono hC.size)
  clear hB7
  go_wp2_with fail
  refine (rtextD_any A n c l w7 (L.out.below hC) hs (by omega)).mono ?_
  rintro x w8 ⟨rfl, hB8⟩
  rw [TK.out]
  have hC := hC.trans (hB8.mono hC.size)
  clear hB8
  go_wp2_with fail
  refine (path_any A n c l k0 w8 (L.out.below hC) (by omega) hc hc2 hk).mono ?_
  rintro x w10 ⟨A10, c10, rfl, hS10, _, _, hB10⟩
  have hC := hC.trans (hB10.mono hC.size)
  have PL := Lib.hid (pathP_len l k0)
  have S10 := Lib.hid hS10
  clear hS10 hB10
  go_wp2_with fail
  refine (rpath_any A n c l k0 w10 (L.out.below hC) hn hk).mono ?_
  rintro x w11 ⟨A11, c11, rfl, hS11, hB11⟩
  have hC := hC.trans (hB11.mono hC.size)
  have S10b := Lib.hid (S10.out.below hB11)
  clear hB11
  go_wp2_with fail
  refine (texts_any A10 _ c10 _ A11 _ c11 _ w11 S10b.out hS11 (by have := PL.out; omega)).mono ?_
  rintro x w12 ⟨rfl, d12, rfl⟩
  rw [decide_eq_true rfl]
  have hC := hC.trans (below_drewN _ _ d12)
  generalize w11.drewN d12 = W12 at *
  go_wp2_with fail
  refine (live42_any _).mono ?_
  rintro x w9 ⟨rfl, hB9⟩
  go_wp2
  go_ret
  exact ⟨rfl, hC.trans (hB9.mono hC.size)⟩
theorem paths_any (A : Option Addr) (n c : Nat) (l : List Ev) (at' : Int) (A' : Option Addr) (n' c' : Nat) (path : List ByteArray) (w : World) (hl : EvsAt w A n l) (hp : StrsAt w A' n' path) (hn : n ≤ 1048576) (hc : n ≤ c) (hc2 : c ≤ 9223372036854775807) (hs : evSum l ≤ 1048576) :
    Calls Try.prog 5 #[.slice A n c, .int .i64 at', .slice A' n' c'] w (BelB true w) := by
  cases h1 : greatB n l with
  | true => exact paths_great A n c l at' A' n' c' path w hl hp hn hc hc2 hs (.inl h1)
  | false =>
    by_cases h2 : n' ≤ 20
    · by_cases ho : at' < 0 ∨ (n : Int) < at'
      · exact paths_out A n c l at' A' n' c' path w hl hp hn hc hc2 hs h1 h2 ho
      · obtain ⟨k, rfl⟩ := Int.eq_ofNat_of_zero_le (show 0 ≤ at' by omega)
        exact paths_in A n c l _ A' n' c' path w hl hp hn hc hc2 hs h1 h2 k rfl (by omega)
    · exact paths_great A n c l at' A' n' c' path w hl hp hn hc hc2 hs (.inr (by omega))
end Go.Proofs.Ytdhgkbghlkhfeaa
