/- The contracts of strings.Cut at a colon, of Part, of the reference's Part, and of Blanks. Conditions: the tables of chars and of utf hold what the text gives them. -/
import Derived.Test.YtbklopnpehafpaaDoorNamePart
namespace Go.Proofs.YtbklopnpehafpaaDoor
open Go.RowKit Go.Proofs.YtbklopnpehafpaaDoor.UtfPlain Go.Proofs.YtbklopnpehafpaaDoor.CharsPlain Go.Proofs.YtbklopnpehafpaaDoor.NamePlain
/-- Where the first colon is; below 0: there is none. -/
def colon (s : ByteArray) : Int := Lib.indexByte s.data.toList 58
theorem colon_b (s : ByteArray) (i : Nat) (h : colon s = i) : i < s.size := by
  have := (Lib.indexByte_some h).1
  have h2 := (List.getElem?_eq_some_iff.1 this).1
  rw [Array.length_toList] at h2; exact h2
/-- The parts of a name, and the error. -/
def partS (s : ByteArray) : ByteArray × ByteArray × Int :=
  if isN (bsOf s) false = false then (⟨#[]⟩, ⟨#[]⟩, 7) else if colon s = -1 then (⟨#[]⟩, s, 0)
  else if isN (bsOf (s.extract 0 (colon s).toNat)) true = true ∧ isN (bsOf (s.extract ((colon s).toNat + 1) s.size)) true = true then (s.extract 0 (colon s).toNat, s.extract ((colon s).toNat + 1) s.size, 0) else (⟨#[]⟩, ⟨#[]⟩, 9)
theorem partS_form {s : ByteArray} (h : isN (bsOf s) false = false) : partS s = (⟨#[]⟩, ⟨#[]⟩, 7) := if_pos h
theorem partS_none {s : ByteArray} (h : isN (bsOf s) false = true) (hc : colon s = -1) : partS s = (⟨#[]⟩, s, 0) := by unfold partS; rw [if_neg (by simp [h]), if_pos hc]
theorem partS_ok {s : ByteArray} {i : Nat} (h : isN (bsOf s) false = true) (hc : colon s = i) (h1 : isN (bsOf (s.extract 0 i)) true = true) (h2 : isN (bsOf (s.extract (i + 1) s.size)) true = true) : partS s = (s.extract 0 i, s.extract (i + 1) s.size, 0) := by
  unfold partS; rw [if_neg (by simp [h]), if_neg (by omega), hc, Int.toNat_natCast, if_pos ⟨h1, h2⟩]
theorem partS_no {s : ByteArray} {i : Nat} (h : isN (bsOf s) false = true) (hc : colon s = i) (h1 : isN (bsOf (s.extract 0 i)) true = false ∨ isN (bsOf (s.extract (i + 1) s.size)) true = false) : partS s = (⟨#[]⟩, ⟨#[]⟩, 9) := by
  unfold partS; rw [if_neg (by simp [h]), if_neg (by omega), hc, Int.toNat_natCast, if_neg (by rintro ⟨a, b⟩; rcases h1 with h1 | h1 <;> simp_all)]
theorem ext_size (s : ByteArray) (i j : Nat) : (s.extract i j).size ≤ s.size := by rw [ByteArray.size_extract]; omega
def TellPart (r : ByteArray × ByteArray × Int) (w : World) (e : Ending) (w' : World) : Prop := e = .returned (.tuple #[.string r.1, .string r.2.1, .int .i64 r.2.2]) ∧ Below w.heap.size w w'
/-- Blanks, passed over. -/
theorem blankZ_in (bs : List Int) (i : Nat) (h : i ≤ bs.length) : blankZ bs i = blankN bs i := by unfold blankZ; rw [if_neg (by omega), Int.toNat_natCast]
theorem blankZ_out (bs : List Int) (at_ : Int) (h : at_ < 0 ∨ (bs.length : Int) < at_) : blankZ bs at_ = at_ := if_pos h
theorem blankZ_yes (xs : List Int) (k : Nat) (x : Int) (hx : xs[k]? = some x) (h : isBlank x = true) : blankZ xs k = blankZ xs ((k : Int) + 1) := by
  have hk : k < xs.length := (List.getElem?_eq_some_iff.1 hx).1
  have e := blankZ_in xs (k + 1) (by omega)
  rw [blankZ_in xs k (by omega), show ((k : Int) + 1) = ((k + 1 : Nat) : Int) by omega, e, blankN_yes xs k hk (by rw [List.getD_eq_getElem?_getD, hx]; exact h)]
theorem blankZ_no (xs : List Int) (k : Nat) (x : Int) (hx : xs[k]? = some x) (h : isBlank x = false) : blankZ xs k = k := by
  have hk : k < xs.length := (List.getElem?_eq_some_iff.1 hx).1
  rw [blankZ_in xs k (by omega), blankN_no xs k (.inr (by rw [List.getD_eq_getElem?_getD, hx]; exact h))]
theorem blankZ_far (xs : List Int) (z : Int) (h : z < 0 ∨ (xs.length : Int) ≤ z) : blankZ xs z = z := by
  by_cases h1 : z < 0 ∨ (xs.length : Int) < z
  · exact blankZ_out xs z h1
  · obtain rfl : z = (xs.length : Int) := by omega
    rw [blankZ_in xs xs.length (Nat.le_refl _), blankN_no xs _ (.inl (Nat.le_refl _))]
set_option maxHeartbeats 2000000 in
theorem blanks_any (A : Option Addr) (n cp : Nat) (at_ : Int) (xs : List Int) (w : World) (hn : n ≤ 140737488355328) (hb : BytesAt w A n xs) :
    Calls Tryd.prog 14 #[.slice A n cp, .int .i64 at_] w (RetI (blankZ xs at_) w) := by
  have B := Lib.hid hb
  clear hb
  go_enter Tryd.func14, Tryd.ntmps14
  go_wp2
  go_loop [1] (fun a => ∃ z : Int, a = .int .i64 z ∧ Hid (blankZ xs z = blankZ xs at_)) (fun a => (n - intOf a).toNat)
  case atStart => exact ⟨at_, rfl, rfl⟩
  case round =>
    obtain ⟨z, rfl, HE⟩ := hrel
    rcases Int.lt_or_le z 0 with h0 | h0
    · have E := Lib.hid (HE.out.symm.trans (blankZ_far xs z (.inl h0)))
      have t0 : decide ((0 : Int) ≤ z) = false := by simp; omega
      go_wp2
      go_ret
      exact ⟨ret_int (by rw [E.out]), rfl⟩
    · rcases Int.lt_or_le z n with h1 | h1
      · obtain ⟨k, rfl⟩ : ∃ k : Nat, z = k := ⟨z.toNat, by omega⟩
        obtain ⟨a, x, hA, hx, hx0, hx1, _, hcell⟩ := B.out.2 k (by omega)
        subst hA
        cases hq : isBlank x with
        | true =>
          have E := Lib.hid ((blankZ_yes xs k x hx hq).symm.trans HE.out)
          have Q := Lib.hid hq
          clear hx hq HE
          go_wp2_with fail
          refine (blank_any x _).mono ?_
          rintro y w2 ⟨rfl, rfl⟩
          rw [Q.out]
          go_wp2
          go_round
          case rel => exact ⟨(k : Int) + 1, rfl, E⟩
          case measure => simp [intOf]; omega
        | false =>
          have E := Lib.hid (HE.out.symm.trans (blankZ_no xs k x hx hq))
          have Q := Lib.hid hq
          clear hx hq HE
          go_wp2_with fail
          refine (blank_any x _).mono ?_
          rintro y w2 ⟨rfl, rfl⟩
          rw [Q.out]
          go_wp2
          go_ret
          exact ⟨ret_int (by rw [E.out]), rfl⟩
      · have E := Lib.hid (HE.out.symm.trans (blankZ_far xs z (.inr (by rw [B.out.1]; exact h1))))
        have t0 : decide (z < (n : Int)) = false := by simp; omega
        go_wp2
        go_ret
        exact ⟨ret_int (by rw [E.out]), rfl⟩
set_option maxHeartbeats 2000000 in
theorem rblanks_any (A : Option Addr) (n cp : Nat) (at_ : Int) (xs : List Int) (w : World) (hn : n ≤ 140737488355328) (hb : BytesAt w A n xs) :
    Calls Tryd.prog 16 #[.slice A n cp, .int .i64 at_] w (RetI (blankZ xs at_) w) := by
  have B := Lib.hid hb
  clear hb
  rcases Int.lt_or_le at_ 0 with h0 | h0
  · rw [blankZ_far xs at_ (.inl h0)]
    go_enter Tryd.func16, Tryd.ntmps16
    go_wp2
    go_ret
    exact ⟨rfl, rfl⟩
  · rcases Int.lt_or_le n at_ with h1 | h1
    · rw [blankZ_far xs at_ (.inr (by rw [B.out.1]; omega))]
      have t0 : decide ((n : Int) < at_) = true := by simpa using h1
      have t1 : decide (at_ < (0 : Int)) = false := by simp; omega
      go_enter Tryd.func16, Tryd.ntmps16
      go_wp2
      all_goals
        go_ret
        exact ⟨rfl, rfl⟩
    · obtain ⟨i, rfl⟩ : ∃ i : Nat, at_ = i := ⟨at_.toNat, by omega⟩
      have b1 : i ≤ n := by omega
      go_enter Tryd.func16, Tryd.ntmps16
      go_wp2
      go_loop [1] (fun a => ∃ k : Nat, k ≤ n ∧ a = .int .i64 k ∧ Hid (blankZ xs k = blankZ xs i)) (fun a => (n - intOf a).toNat)
      case atStart => exact ⟨i, b1, rfl, rfl⟩
      case round =>
        obtain ⟨k, hk, rfl, HE⟩ := hrel
        by_cases hlt : k < n
        · obtain ⟨a, x, hA, hx, hx0, hx1, _, hcell⟩ := B.out.2 k hlt
          subst hA
          have b2 : (0 : Int) ≤ (k : Int) := by omega
          have b3 : (k : Int) < (n : Int) := by omega
          cases hq : isBlank x with
          | true =>
            have E : Hid (blankZ xs ((k + 1 : Nat) : Int) = blankZ xs i) := (blankZ_yes xs k x hx hq).symm.trans HE.out
            have Q := Lib.hid hq
            clear hx hq HE
            go_wp2_with fail
            refine (rblank_any x _).mono ?_
            rintro y w2 ⟨rfl, rfl⟩
            rw [Q.out]
            go_wp2
            go_round
            case rel => exact ⟨k + 1, by omega, by go_num, E⟩
            case measure => simp [intOf]; omega
          | false =>
            have E := Lib.hid (HE.out.symm.trans (blankZ_no xs k x hx hq))
            have Q := Lib.hid hq
            clear hx hq HE
            go_wp2_with fail
            refine (rblank_any x _).mono ?_
            rintro y w2 ⟨rfl, rfl⟩
            rw [Q.out]
            go_wp2
            go_ret
            exact ⟨ret_int (by rw [E.out]), rfl⟩
        · have E := Lib.hid (HE.out.symm.trans (blankZ_far xs k (.inr (by rw [B.out.1]; omega))))
          have b3 : ¬ k < n := hlt
          go_wp2
          go_ret
          exact ⟨ret_int (by rw [E.out]), rfl⟩
end Go.Proofs.YtbklopnpehafpaaDoor
