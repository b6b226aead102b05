/- The contracts of the reference of layer 5 on names at a place, and on blanks. Conditions: bytes read as numbers from 0 to 255. -/
import Derived.Test.YtlifdmehejehjaaDoorPlainA
import Derived.Test.YtlifdmehejehjaaDoorCharsNames
import Derived.Test.YtlifdmehejehjaaDoorCharsCalls
import Derived.Test.YtlifdmehejehjaaDoorUtfChar
namespace Go.Proofs.YtlifdmehejehjaaDoor
open Go.RowKit Go.Proofs.YtlifdmehejehjaaDoor.UtfPlain Go.Proofs.YtlifdmehejehjaaDoor.CharsPlain Go.Proofs.YtlifdmehejehjaaDoor.NamePlain
theorem belowN_drewN (B : Nat) (w : World) (n : Nat) : Below B w (w.drewN n) := (Below.refl B w).trans ⟨rfl, rfl, rfl, Nat.le_refl _, fun _ _ => rfl⟩
theorem mayK_true (plain : Bool) (r : Int) : mayK true plain r = (isStart r && !(plain && r == 58)) := rfl
theorem mayK_false (plain : Bool) (r : Int) : mayK false plain r = (isName r && !(plain && r == 58)) := rfl
set_option maxRecDepth 100000 in
set_option maxHeartbeats 4000000 in
theorem rend_false (A : Option Addr) (n cp i : Nat) (xs : List Int) (w : World) (hn : n ≤ 140737488355328) (hb : BytesAt w A n xs) (hi : i ≤ n) :
    Calls Tryd.prog 44 #[.slice A n cp, .int .i64 i, .bool false] w (BelI (endN xs false true i) w) := by
  have BX := Lib.hid hb
  have HL := Lib.hid hb.1
  clear hb
  go_enter Tryd.func44, Tryd.ntmps44
  go_wp2
  go_loopw [1, 7, 8, 9, 10] (fun at_ fst _ _ _ wr => ∃ (k : Nat) (first : Bool), k ≤ n ∧ at_ = .int .i64 k ∧ fst = .bool first ∧ Hid (endN xs false first k = endN xs false true i) ∧ Hid (Below w.heap.size w wr)) (fun at_ _ _ _ _ _ => n - (intOf at_).toNat)
  case atStart => exact ⟨i, true, by omega, rfl, rfl, rfl, Below.refl _ _⟩
  case round =>
    obtain ⟨k, first, hk, rfl, rfl, HE, HB⟩ := hrel
    by_cases hlt : k < n
    · have BR := Lib.hid (BX.out.below HB.out)
      have hin := charAt_in xs k (by rw [HL.out]; exact hlt)
      rw [HL.out] at hin
      obtain ⟨r, m, hc⟩ : ∃ r m, charAt xs k = (r, m) := ⟨_, _, rfl⟩
      rw [hc] at hin
      have hin' : k + m ≤ n := hin
      have CH := Lib.hid (rchar2_any A n cp k xs wr hn BR.out hlt)
      rw [hc] at CH
      by_cases hz : m = 0
      · subst hz
        have E := Lib.hid (HE.out.symm.trans (endN_no xs false first k (.inl (by rw [hc]))))
        clear HE hin hc
        cases first
        all_goals
          go_wp2_with fail
          refine CH.out.mono ?_
          rintro x w2 ⟨rfl, hB2⟩
          have HB2 := Lib.hid (HB.out.trans (hB2.mono HB.out.size))
          clear hB2
          go_wp2_with (first | (go_at_call 54; refine (rname_any _ _).mono ?_; rintro x w' ⟨rfl, rfl⟩) | (go_at_call 55; refine (rstart_any _ _).mono ?_; rintro x w' ⟨rfl, rfl⟩))
          go_ret
          exact ⟨ret_int (by rw [E.out]), HB2.out⟩
      · have q0 : ((m : Int) == 0) = false := by simp; omega
        cases hq : mayK first false r with
        | false =>
          have E := Lib.hid (HE.out.symm.trans (endN_no xs false first k (.inr (by rw [hc]; exact hq))))
          clear HE hin hc
          cases first
          · rw [mayK_false] at hq
            by_cases hs : isName r = true
            · have S := Lib.hid hs
              rw [hs] at hq
              exact absurd hq (by simp)
            · have S := Lib.hid (show isName r = false by simpa using hs)
              clear hq hs
              go_wp2_with fail
              refine CH.out.mono ?_
              rintro x w2 ⟨rfl, hB2⟩
              have HB2 := Lib.hid (HB.out.trans (hB2.mono HB.out.size))
              clear hB2
              go_wp2_with fail
              refine (rname_any _ _).mono ?_; rintro x w' ⟨rfl, rfl⟩
              rw [S.out]
              go_wp2
              go_ret
              exact ⟨ret_int (by rw [E.out]), HB2.out⟩
          · rw [mayK_true] at hq
            by_cases hs : isStart r = true
            · have S := Lib.hid hs
              rw [hs] at hq
              exact absurd hq (by simp)
            · have S := Lib.hid (show isStart r = false by simpa using hs)
              clear hq hs
              go_wp2_with fail
              refine CH.out.mono ?_
              rintro x w2 ⟨rfl, hB2⟩
              have HB2 := Lib.hid (HB.out.trans (hB2.mono HB.out.size))
              clear hB2
              go_wp2_with fail
              refine (rname_any _ _).mono ?_; rintro x w' ⟨rfl, rfl⟩
              go_wp2_with fail
              refine (rstart_any _ _).mono ?_; rintro x w' ⟨rfl, rfl⟩
              rw [S.out]
              go_wp2
              go_ret
              exact ⟨ret_int (by rw [E.out]), HB2.out⟩
        | true =>
          have E2 : Hid (endN xs false false (k + m) = endN xs false true i) := by
            have h := HE.out.symm.trans (endN_yes xs false first k (by rw [HL.out]; exact hlt) (by rw [hc]; exact hz) (by rw [hc]; exact hq))
            rw [hc] at h
            exact h.symm
          clear HE hin hc
          have hp : True := trivial
          cases first
          · have S := Lib.hid (show isName r = true by rw [mayK_false] at hq; simpa using hq)
            clear hq
            all_goals
              go_wp2_with fail
              refine CH.out.mono ?_
              rintro x w2 ⟨rfl, hB2⟩
              have HB2 := Lib.hid (HB.out.trans (hB2.mono HB.out.size))
              clear hB2
              go_wp2_with fail
              refine (rname_any _ _).mono ?_; rintro x w' ⟨rfl, rfl⟩
              rw [S.out]
              go_wp2
              go_roundw
              case rel => exact ⟨k + m, false, by omega, by go_num, rfl, E2, HB2⟩
              case measure => simp [intOf]; omega
          · have S := Lib.hid (show isStart r = true by rw [mayK_true] at hq; simpa using hq)
            clear hq
            all_goals
              go_wp2_with fail
              refine CH.out.mono ?_
              rintro x w2 ⟨rfl, hB2⟩
              have HB2 := Lib.hid (HB.out.trans (hB2.mono HB.out.size))
              clear hB2
              go_wp2_with fail
              refine (rname_any _ _).mono ?_; rintro x w' ⟨rfl, rfl⟩
              go_wp2_with fail
              refine (rstart_any _ _).mono ?_; rintro x w' ⟨rfl, rfl⟩
              rw [S.out]
              go_wp2
              go_roundw
              case rel => exact ⟨k + m, false, by omega, by go_num, rfl, E2, HB2⟩
              case measure => simp [intOf]; omega
    · have E := Lib.hid (HE.out.symm.trans (endN_at xs false first k (by rw [HL.out]; omega)))
      have b3 : ¬ k < n := hlt
      clear HE
      go_wp2
      go_ret
      exact ⟨ret_int (by rw [E.out]), HB.out⟩
set_option maxRecDepth 100000 in
set_option maxHeartbeats 4000000 in
theorem rend_true (A : Option Addr) (n cp i : Nat) (xs : List Int) (w : World) (hn : n ≤ 140737488355328) (hb : BytesAt w A n xs) (hi : i ≤ n) :
    Calls Tryd.prog 44 #[.slice A n cp, .int .i64 i, .bool true] w (BelI (endN xs true true i) w) := by
  have BX := Lib.hid hb
  have HL := Lib.hid hb.1
  clear hb
  go_enter Tryd.func44, Tryd.ntmps44
  go_wp2
  go_loopw [1, 7, 8, 9, 10] (fun at_ fst _ _ _ wr => ∃ (k : Nat) (first : Bool), k ≤ n ∧ at_ = .int .i64 k ∧ fst = .bool first ∧ Hid (endN xs true first k = endN xs true true i) ∧ Hid (Below w.heap.size w wr)) (fun at_ _ _ _ _ _ => n - (intOf at_).toNat)
  case atStart => exact ⟨i, true, by omega, rfl, rfl, rfl, Below.refl _ _⟩
  case round =>
    obtain ⟨k, first, hk, rfl, rfl, HE, HB⟩ := hrel
    by_cases hlt : k < n
    · have BR := Lib.hid (BX.out.below HB.out)
      have hin := charAt_in xs k (by rw [HL.out]; exact hlt)
      rw [HL.out] at hin
      obtain ⟨r, m, hc⟩ : ∃ r m, charAt xs k = (r, m) := ⟨_, _, rfl⟩
      rw [hc] at hin
      have hin' : k + m ≤ n := hin
      have CH := Lib.hid (rchar2_any A n cp k xs wr hn BR.out hlt)
      rw [hc] at CH
      by_cases hz : m = 0
      · subst hz
        have E := Lib.hid (HE.out.symm.trans (endN_no xs true first k (.inl (by rw [hc]))))
        clear HE hin hc
        cases first
        all_goals
          go_wp2_with fail
          refine CH.out.mono ?_
          rintro x w2 ⟨rfl, hB2⟩
          have HB2 := Lib.hid (HB.out.trans (hB2.mono HB.out.size))
          clear hB2
          go_wp2_with (first | (go_at_call 54; refine (rname_any _ _).mono ?_; rintro x w' ⟨rfl, rfl⟩) | (go_at_call 55; refine (rstart_any _ _).mono ?_; rintro x w' ⟨rfl, rfl⟩))
          go_ret
          exact ⟨ret_int (by rw [E.out]), HB2.out⟩
      · have q0 : ((m : Int) == 0) = false := by simp; omega
        cases hq : mayK first true r with
        | false =>
          have E := Lib.hid (HE.out.symm.trans (endN_no xs true first k (.inr (by rw [hc]; exact hq))))
          clear HE hin hc
          cases first
          · rw [mayK_false] at hq
            by_cases hs : isName r = true
            · have S := Lib.hid hs
              rw [hs] at hq
              obtain rfl : r = 58 := by simpa using hq
              clear hq hs
              go_wp2_with fail
              refine CH.out.mono ?_
              rintro x w2 ⟨rfl, hB2⟩
              have HB2 := Lib.hid (HB.out.trans (hB2.mono HB.out.size))
              clear hB2
              go_wp2_with fail
              refine (rname_any _ _).mono ?_; rintro x w' ⟨rfl, rfl⟩
              rw [S.out]
              go_wp2
              go_ret
              exact ⟨ret_int (by rw [E.out]), HB2.out⟩
            · have S := Lib.hid (show isName r = false by simpa using hs)
              clear hq hs
              go_wp2_with fail
              refine CH.out.mono ?_
              rintro x w2 ⟨rfl, hB2⟩
              have HB2 := Lib.hid (HB.out.trans (hB2.mono HB.out.size))
              clear hB2
              go_wp2_with fail
              refine (rname_any _ _).mono ?_; rintro x w' ⟨rfl, rfl⟩
              rw [S.out]
              go_wp2
              go_ret
              exact ⟨ret_int (by rw [E.out]), HB2.out⟩
          · rw [mayK_true] at hq
            by_cases hs : isStart r = true
            · have S := Lib.hid hs
              rw [hs] at hq
              obtain rfl : r = 58 := by simpa using hq
              clear hq hs
              go_wp2_with fail
              refine CH.out.mono ?_
              rintro x w2 ⟨rfl, hB2⟩
              have HB2 := Lib.hid (HB.out.trans (hB2.mono HB.out.size))
              clear hB2
              go_wp2_with fail
              refine (rname_any _ _).mono ?_; rintro x w' ⟨rfl, rfl⟩
              go_wp2_with fail
              refine (rstart_any _ _).mono ?_; rintro x w' ⟨rfl, rfl⟩
              rw [S.out]
              go_wp2
              go_ret
              exact ⟨ret_int (by rw [E.out]), HB2.out⟩
            · have S := Lib.hid (show isStart r = false by simpa using hs)
              clear hq hs
              go_wp2_with fail
              refine CH.out.mono ?_
              rintro x w2 ⟨rfl, hB2⟩
              have HB2 := Lib.hid (HB.out.trans (hB2.mono HB.out.size))
              clear hB2
              go_wp2_with fail
              refine (rname_any _ _).mono ?_; rintro x w' ⟨rfl, rfl⟩
              go_wp2_with fail
              refine (rstart_any _ _).mono ?_; rintro x w' ⟨rfl, rfl⟩
              rw [S.out]
              go_wp2
              go_ret
              exact ⟨ret_int (by rw [E.out]), HB2.out⟩
        | true =>
          have E2 : Hid (endN xs true false (k + m) = endN xs true true i) := by
            have h := HE.out.symm.trans (endN_yes xs true first k (by rw [HL.out]; exact hlt) (by rw [hc]; exact hz) (by rw [hc]; exact hq))
            rw [hc] at h
            exact h.symm
          clear HE hin hc
          have hp : (r == 58) = false := by cases first <;> simp_all [mayK]
          cases first
          · have S := Lib.hid (show isName r = true by rw [mayK_false] at hq; simp at hq; exact hq.1)
            clear hq
            all_goals
              go_wp2_with fail
              refine CH.out.mono ?_
              rintro x w2 ⟨rfl, hB2⟩
              have HB2 := Lib.hid (HB.out.trans (hB2.mono HB.out.size))
              clear hB2
              go_wp2_with fail
              refine (rname_any _ _).mono ?_; rintro x w' ⟨rfl, rfl⟩
              rw [S.out]
              go_wp2
              go_roundw
              case rel => exact ⟨k + m, false, by omega, by go_num, rfl, E2, HB2⟩
              case measure => simp [intOf]; omega
          · have S := Lib.hid (show isStart r = true by rw [mayK_true] at hq; simp at hq; exact hq.1)
            clear hq
            all_goals
              go_wp2_with fail
              refine CH.out.mono ?_
              rintro x w2 ⟨rfl, hB2⟩
              have HB2 := Lib.hid (HB.out.trans (hB2.mono HB.out.size))
              clear hB2
              go_wp2_with fail
              refine (rname_any _ _).mono ?_; rintro x w' ⟨rfl, rfl⟩
              go_wp2_with fail
              refine (rstart_any _ _).mono ?_; rintro x w' ⟨rfl, rfl⟩
              rw [S.out]
              go_wp2
              go_roundw
              case rel => exact ⟨k + m, false, by omega, by go_num, rfl, E2, HB2⟩
              case measure => simp [intOf]; omega
    · have E := Lib.hid (HE.out.symm.trans (endN_at xs true first k (by rw [HL.out]; omega)))
      have b3 : ¬ k < n := hlt
      clear HE
      go_wp2
      go_ret
      exact ⟨ret_int (by rw [E.out]), HB.out⟩
theorem rend_any (plain : Bool) (A : Option Addr) (n cp i : Nat) (xs : List Int) (w : World) (hn : n ≤ 140737488355328) (hb : BytesAt w A n xs) (hi : i ≤ n) :
    Calls Tryd.prog 44 #[.slice A n cp, .int .i64 i, .bool plain] w (BelI (endN xs plain true i) w) := by
  cases plain
  · exact rend_false A n cp i xs w hn hb hi
  · exact rend_true A n cp i xs w hn hb hi
end Go.Proofs.YtlifdmehejehjaaDoor
