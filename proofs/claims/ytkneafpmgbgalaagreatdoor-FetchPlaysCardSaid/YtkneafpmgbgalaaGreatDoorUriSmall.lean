/- The contracts of uri.letter, among, all; of the reference's letter, among; of narthexref07.Has. Conditions: none. -/
import Derived.Test.YtkneafpmgbgalaaGreatDoorCharsMore
import Derived.Test.YtkneafpmgbgalaaGreatDoorUriPlain
import Derived.Test.YtkneafpmgbgalaaGreatDoorShelf
namespace Go.Proofs.YtkneafpmgbgalaaGreatDoor
open Go.RowKit Go.Proofs.YtkneafpmgbgalaaGreatDoor.CharsPlain Go.Proofs.YtkneafpmgbgalaaGreatDoor.UriPlain
set_option linter.unusedVariables false
set_option linter.unusedSimpArgs false
set_option maxHeartbeats 1000000 in
theorem uletter_any (n : Int) (w : World) : Calls Tryz.prog 59 #[.int .u8 n] w (RetB (letN n) w) := by
  unfold letN
  by_cases h1 : 97 ≤ n <;> by_cases h2 : n ≤ 122 <;> by_cases h3 : 65 ≤ n <;> by_cases h4 : n ≤ 90
  all_goals
    go_enter Tryz.func59, Tryz.ntmps59
    go_wp2
    go_ret
    exact ⟨by simp [h1, h2, h3, h4], rfl⟩
set_option maxHeartbeats 1000000 in
theorem urletter_any (n : Int) (w : World) : Calls Tryz.prog 50 #[.int .u8 n] w (RetB (letN n) w) := by
  unfold letN
  by_cases h1 : 97 ≤ n <;> by_cases h2 : n ≤ 122 <;> by_cases h3 : 65 ≤ n <;> by_cases h4 : n ≤ 90
  all_goals
    go_enter Tryz.func50, Tryz.ntmps50
    go_wp2
    go_ret
    exact ⟨by simp [h1, h2, h3, h4], rfl⟩
set_option maxHeartbeats 1000000 in
theorem among_any (n : Int) (s : ByteArray) (w : World) : Calls Tryz.prog 73 #[.int .u8 n, .string s] w (RetB (amI s.data.toList n) w) := by
  unfold amI
  cases h1 : letN n with
  | true =>
    have H1 := Lib.hid h1
    clear h1
    go_enter Tryz.func73, Tryz.ntmps73
    go_wp2_with fail
    refine (uletter_any _ _).mono ?_
    rintro e w' ⟨rfl, rfl⟩
    rw [H1.out]
    go_wp2
    go_ret
    exact ⟨rfl, rfl⟩
  | false =>
    have H1 := Lib.hid h1
    clear h1
    by_cases h2 : 48 ≤ n ∧ n ≤ 57
    · obtain ⟨h2, h3⟩ := h2
      go_enter Tryz.func73, Tryz.ntmps73
      go_wp2_with fail
      refine (uletter_any _ _).mono ?_
      rintro e w' ⟨rfl, rfl⟩
      rw [H1.out]
      go_wp2
      go_ret
      exact ⟨by simp [h2, h3], rfl⟩
    · have e1 : decide (48 ≤ n ∧ n ≤ 57) = false := by simpa using h2
      rw [e1]
      have I := Lib.hid (indexByte_mem s.data.toList n.toNat.toUInt8)
      clear e1
      by_cases h3 : 48 ≤ n
      · have h4 : ¬ n ≤ 57 := fun h => h2 ⟨h3, h⟩
        clear h2
        go_enter Tryz.func73, Tryz.ntmps73
        go_wp2_with fail
        refine (uletter_any _ _).mono ?_
        rintro e w' ⟨rfl, rfl⟩
        rw [H1.out]
        go_wp2_with fail
        refine (Tryz.strings_IndexByte _ _ _).mono ?_
        rintro e w' ⟨rfl, rfl⟩
        go_wp2
        go_ret
        exact ⟨by rw [← I.out]; simp, rfl⟩
      · clear h2
        go_enter Tryz.func73, Tryz.ntmps73
        go_wp2_with fail
        refine (uletter_any _ _).mono ?_
        rintro e w' ⟨rfl, rfl⟩
        rw [H1.out]
        go_wp2_with fail
        refine (Tryz.strings_IndexByte _ _ _).mono ?_
        rintro e w' ⟨rfl, rfl⟩
        go_wp2
        go_ret
        exact ⟨by rw [← I.out]; simp, rfl⟩
theorem take_snocU (s : ByteArray) (k : Nat) (h : k < s.size) : s.data.toList.take (k + 1) = s.data.toList.take k ++ [s[k]] := by
  rw [List.take_succ_eq_append_getElem (by simpa using h)]; rfl
theorem u8_eq (c : UInt8) (n : Int) (h0 : 0 ≤ n) (h1 : n ≤ 255) : ((c.toNat : Int) = n) ↔ c = n.toNat.toUInt8 := by
  constructor
  · intro h; subst h; simp
  · intro h; subst h
    show ((n.toNat.toUInt8).toNat : Int) = n
    rw [Nat.toUInt8, UInt8.toNat_ofNat']
    omega
set_option maxRecDepth 100000 in
set_option maxHeartbeats 2000000 in
theorem hasU_aux (s : ByteArray) (c : Int) (b : Bool) (w : World) (hs : s.size ≤ 1099511627776) (h0 : 0 ≤ c) (h1 : c ≤ 255) (hb : Hid (s.data.toList.contains c.toNat.toUInt8 = b)) :
    Calls Tryz.prog 66 #[.string s, .int .u8 c] w (RetB b w) := by
  go_enter Tryz.func66, Tryz.ntmps66
  go_wp2
  go_loop [5] (fun v5 => ∃ k : Nat, k ≤ s.size ∧ v5 = .int .i64 k ∧ Hid ((s.data.toList.take k).contains c.toNat.toUInt8 = false)) (fun v5 => s.size - (intOf v5).toNat)
  case atStart => exact ⟨0, Nat.zero_le _, rfl, by show _ = false; simp⟩
  case round =>
    obtain ⟨k, hk, rfl, HC⟩ := hrel
    by_cases hlt : k < s.size
    · by_cases hx : ((s[k].toNat : Int) = c)
      · have t1 : ((s[k].toNat : Int) == c) = true := by simpa using hx
        have HX := Lib.hid ((u8_eq _ _ h0 h1).1 hx)
        clear hx
        go_wp2
        go_ret
        have hm : b = true := by
          rw [← hb.out, List.contains_iff_mem, ← HX.out]
          show s.data[k] ∈ _
          simp
        exact ⟨by rw [hm]; rfl, rfl⟩
      · have t1 : ((s[k].toNat : Int) == c) = false := by simpa using hx
        have HX := Lib.hid (fun h : s[k] = c.toNat.toUInt8 => hx ((u8_eq s[k] _ h0 h1).2 h))
        clear hx
        go_wp2
        go_round
        case rel =>
          refine ⟨k + 1, by omega, by go_num, ?_⟩
          show _ = false
          rw [take_snocU s k hlt, List.contains_append, HC.out]
          simpa using fun h => HX.out h.symm
        case measure => simp [intOf]; omega
    · obtain rfl : k = s.size := by omega
      go_wp2
      go_ret
      have hm : b = false := by
        have := HC.out
        rw [List.take_of_length_le (by simp)] at this
        rw [← hb.out, this]
      exact ⟨by rw [hm]; rfl, rfl⟩
theorem hasU_any (s : ByteArray) (c : Int) (w : World) (hs : s.size ≤ 1099511627776) (h0 : 0 ≤ c) (h1 : c ≤ 255) :
    Calls Tryz.prog 66 #[.string s, .int .u8 c] w (RetB (s.data.toList.contains c.toNat.toUInt8) w) :=
  hasU_aux s c _ w hs h0 h1 rfl
set_option maxHeartbeats 1000000 in
theorem uramong_any (n : Int) (s : ByteArray) (w : World) (hs : s.size ≤ 1099511627776) (n0 : 0 ≤ n) (n1 : n ≤ 255) : Calls Tryz.prog 51 #[.int .u8 n, .string s] w (RetB (amI s.data.toList n) w) := by
  unfold amI
  cases h1 : letN n with
  | true =>
    have H1 := Lib.hid h1
    clear h1
    go_enter Tryz.func51, Tryz.ntmps51
    go_wp2_with fail
    refine (urletter_any _ _).mono ?_
    rintro e w' ⟨rfl, rfl⟩
    rw [H1.out]
    go_wp2
    go_ret
    exact ⟨rfl, rfl⟩
  | false =>
    have H1 := Lib.hid h1
    clear h1
    by_cases h2 : 48 ≤ n ∧ n ≤ 57
    · obtain ⟨h2, h3⟩ := h2
      go_enter Tryz.func51, Tryz.ntmps51
      go_wp2_with fail
      refine (urletter_any _ _).mono ?_
      rintro e w' ⟨rfl, rfl⟩
      rw [H1.out]
      go_wp2
      go_ret
      exact ⟨by simp [h2, h3], rfl⟩
    · have e1 : decide (48 ≤ n ∧ n ≤ 57) = false := by simpa using h2
      rw [e1]
      clear e1
      by_cases h3 : 48 ≤ n
      · have h4 : ¬ n ≤ 57 := fun h => h2 ⟨h3, h⟩
        clear h2
        go_enter Tryz.func51, Tryz.ntmps51
        go_wp2_with fail
        refine (urletter_any _ _).mono ?_
        rintro e w' ⟨rfl, rfl⟩
        rw [H1.out]
        go_wp2_with fail
        refine (hasU_any _ _ _ hs n0 n1).mono ?_
        rintro e w' ⟨rfl, rfl⟩
        go_wp2
        go_ret
        exact ⟨by simp, rfl⟩
      · clear h2
        go_enter Tryz.func51, Tryz.ntmps51
        go_wp2_with fail
        refine (urletter_any _ _).mono ?_
        rintro e w' ⟨rfl, rfl⟩
        rw [H1.out]
        go_wp2_with fail
        refine (hasU_any _ _ _ hs n0 n1).mono ?_
        rintro e w' ⟨rfl, rfl⟩
        go_wp2
        go_ret
        exact ⟨by simp, rfl⟩
set_option maxRecDepth 100000 in
set_option maxHeartbeats 2000000 in
theorem all_any (s t : ByteArray) (w : World) (hs : s.size ≤ 1099511627776) :
    Calls Tryz.prog 58 #[.string s, .string t] w (RetB (allU t.data.toList s.data.toList) w) := by
  go_enter Tryz.func58, Tryz.ntmps58
  go_wp2
  go_loop [5, 8] (fun v5 v8 => ∃ k : Nat, k ≤ s.size ∧ v8 = .int .i64 k ∧ Hid ((s.data.toList.take k).all (amU t.data.toList) = true)) (fun _ v8 => s.size - (intOf v8).toNat)
  case atStart => exact ⟨0, Nat.zero_le _, rfl, by show _ = true; simp⟩
  case round =>
    obtain ⟨k, hk, rfl, HC⟩ := hrel
    by_cases hlt : k < s.size
    · cases hx : amI t.data.toList (s[k].toNat : Int) with
      | true =>
        have HX := Lib.hid hx
        clear hx
        go_wp2_with fail
        refine (among_any _ _ _).mono ?_
        rintro e w' ⟨rfl, rfl⟩
        rw [HX.out]
        go_wp2
        go_round
        case rel =>
          refine ⟨k + 1, by omega, by go_num, ?_⟩
          show _ = true
          rw [take_snocU s k hlt, List.all_append, HC.out]
          simp [amU, HX.out]
        case measure => simp [intOf]; omega
      | false =>
        have HX := Lib.hid hx
        clear hx
        go_wp2_with fail
        refine (among_any _ _ _).mono ?_
        rintro e w' ⟨rfl, rfl⟩
        rw [HX.out]
        go_wp2
        go_ret
        refine ⟨?_, rfl⟩
        have : s.data.toList.all (amU t.data.toList) = false := by
          rw [List.all_eq_false]
          exact ⟨s[k], by show s.data[k] ∈ _; simp, by unfold amU; rw [HX.out]; simp⟩
        simp [allU, this]
    · obtain rfl : k = s.size := by omega
      have HA : Hid (s.data.toList.all (amU t.data.toList) = true) := by
        have := HC.out
        rwa [List.take_of_length_le (by simp)] at this
      clear HC
      go_wp2
      go_ret
      refine ⟨?_, rfl⟩
      unfold allU
      rw [HA.out, ← ByteArray.toList_eq]
      simp [bne, List.isEmpty_iff]
end Go.Proofs.YtkneafpmgbgalaaGreatDoor
