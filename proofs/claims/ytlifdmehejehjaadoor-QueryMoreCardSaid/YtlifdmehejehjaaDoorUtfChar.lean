/- The contract of the reference's Char: the character at a place. Conditions: the place is there; bytes read as numbers from 0 to 255. -/
import Derived.Test.YtlifdmehejehjaaDoorUtfRef
namespace Go.Proofs.YtlifdmehejehjaaDoor
open Go.RowKit Go.Proofs.YtlifdmehejehjaaDoor.UtfPlain
/-- What a call that tells a character and its bytes gives. -/
def TellChar (p : Int × Nat) (w : World) (e : Ending) (w' : World) : Prop := e = .returned (.tuple #[.int .i64 p.1, .int .i64 p.2]) ∧ Below w.heap.size w w'
set_option maxHeartbeats 2000000 in
set_option maxRecDepth 100000 in
theorem rchar2_none (A : Option Addr) (n cp i : Nat) (xs : List Int) (w : World) (hn : n ≤ 140737488355328) (hb : BytesAt w A n xs) (hi : i < n) (hc : (cand (xs.getD i 0) (rest xs (i + 1)) (rest xs (i + 2)) (rest xs (i + 3))).2 = 0) :
    Calls Tryd.prog 53 #[.slice A n cp, .int .i64 i] w (TellChar (0, 0) w) := by
  obtain ⟨a, c, rfl, hx, h0, h1, _, hcell⟩ := hb.2 i hi
  have B := Lib.hid hb
  have e0 : xs.getD i 0 = c := by rw [List.getD_eq_getElem?_getD, hx]; rfl
  rw [e0] at hc
  have e1 := rest_b xs (i + 1)
  have e2 := rest_b xs (i + 2)
  have e3 := rest_b xs (i + 3)
  have hcase : (128 ≤ c ∧ c < 192) ∨ (192 ≤ c ∧ c < 224 ∧ rest xs (i + 1) < 0) ∨ (224 ≤ c ∧ c < 240 ∧ rest xs (i + 1) < 0) ∨ (224 ≤ c ∧ c < 240 ∧ 0 ≤ rest xs (i + 1) ∧ rest xs (i + 2) < 0) ∨
      (240 ≤ c ∧ c < 248 ∧ rest xs (i + 1) < 0) ∨ (240 ≤ c ∧ c < 248 ∧ 0 ≤ rest xs (i + 1) ∧ rest xs (i + 2) < 0) ∨ (240 ≤ c ∧ c < 248 ∧ 0 ≤ rest xs (i + 1) ∧ 0 ≤ rest xs (i + 2) ∧ rest xs (i + 3) < 0) ∨ 248 ≤ c := by
    unfold cand at hc
    split at hc
    · simp at hc
    · split at hc
      · simp at hc
      · split at hc
        · simp at hc
        · split at hc
          · simp at hc
          · omega
  generalize hX : rest xs (i + 1) = x at *
  generalize hY : rest xs (i + 2) = y at *
  generalize hZ : rest xs (i + 3) = z at *
  have HX := Lib.hid hX
  have HY := Lib.hid hY
  have HZ := Lib.hid hZ
  clear hX hY hZ hx e0 hc hb
  rcases hcase with ⟨k1, k2⟩ | ⟨k1, k2, k3⟩ | ⟨k1, k2, k3⟩ | ⟨k1, k2, k3, k4⟩ | ⟨k1, k2, k3⟩ | ⟨k1, k2, k3, k4⟩ | ⟨k1, k2, k3, k4, k5⟩ | k1
  all_goals
    (try have q1 : decide (c < 224) = false := by simp; omega)
    (try have q2 : decide (c < 240) = false := by simp; omega)
    (try have q3 : decide (c < 248) = false := by simp; omega)
    (try have q4 : decide (0 ≤ x) = false := by simp; omega)
    (try have q5 : decide (0 ≤ y) = false := by simp; omega)
    (try have q6 : decide (0 ≤ z) = false := by simp; omega)
    go_enter Tryd.func53, Tryd.ntmps53
    go_wp2_with fail
    refine (rrest_any _ n cp (i + 1) xs _ B.out).mono ?_; rintro e w' ⟨rfl, rfl⟩
    rw [HX.out]
    go_wp2_with fail
    refine (rrest_any _ n cp (i + 2) xs _ B.out).mono ?_; rintro e w' ⟨rfl, rfl⟩
    rw [HY.out]
    go_wp2_with fail
    refine (rrest_any _ n cp (i + 3) xs _ B.out).mono ?_; rintro e w' ⟨rfl, rfl⟩
    rw [HZ.out]
    go_wp2
    go_ret2
    exact ⟨rfl, Below.refl _ _⟩
/-- The end of Char: a candidate is held against Is and Bytes. -/
def endOf (r : Int) (m : Nat) : Int × Nat := if isR r = false ∨ sizeR r ≠ m then (0, 0) else (r, m)
set_option maxHeartbeats 2000000 in
set_option maxRecDepth 100000 in
theorem rchar2_at1 (a : Addr) (c : Int) (n cp i : Nat) (xs : List Int) (w : World) (hn : n ≤ 140737488355328) (hi : i < n) (hb : BytesAt w (some a) n xs) (hcell : w.cell? (a.add i) = some (.int .u8 c)) (h0 : 0 ≤ c) (h1 : c ≤ 255) (hc : c < 128) :
    Calls Tryd.prog 53 #[.slice (some a) n cp, .int .i64 i] w (TellChar (endOf (c) 1) w) := by
  have B := Lib.hid hb
  have e1 := rest_b xs (i + 1)
  have e2 := rest_b xs (i + 2)
  have e3 := rest_b xs (i + 3)
  generalize hX : rest xs (i + 1) = x at *
  generalize hY : rest xs (i + 2) = y at *
  generalize hZ : rest xs (i + 3) = z at *
  have HX := Lib.hid hX
  have HY := Lib.hid hY
  have HZ := Lib.hid hZ
  clear hX hY hZ hb
  cases hR : isR (c) with
  | false =>
    have e : endOf (c) 1 = (0, 0) := by unfold endOf; rw [if_pos (.inl hR)]
    rw [e]
    have R := Lib.hid hR
    clear e hR
    go_enter Tryd.func53, Tryd.ntmps53
    go_wp2_with fail
    refine (rrest_any _ n cp (i + 1) xs _ B.out).mono ?_; rintro e w' ⟨rfl, rfl⟩
    rw [HX.out]
    go_wp2_with fail
    refine (rrest_any _ n cp (i + 2) xs _ B.out).mono ?_; rintro e w' ⟨rfl, rfl⟩
    rw [HY.out]
    go_wp2_with fail
    refine (rrest_any _ n cp (i + 3) xs _ B.out).mono ?_; rintro e w' ⟨rfl, rfl⟩
    rw [HZ.out]
    go_wp2_with fail
    refine (ris2_any _ _).mono ?_; rintro e w' ⟨rfl, rfl⟩
    rw [R.out]
    go_wp2
    go_ret2
    exact ⟨rfl, Below.refl _ _⟩
  | true =>
    by_cases hS : sizeR (c) = 1
    · have e : endOf (c) 1 = (c, 1) := by unfold endOf; rw [if_neg (by simp [hR, hS])]
      rw [e]
      have R := Lib.hid hR
      have S := Lib.hid hS
      clear e hR hS
      go_enter Tryd.func53, Tryd.ntmps53
      go_wp2_with fail
      refine (rrest_any _ n cp (i + 1) xs _ B.out).mono ?_; rintro e w' ⟨rfl, rfl⟩
      rw [HX.out]
      go_wp2_with fail
      refine (rrest_any _ n cp (i + 2) xs _ B.out).mono ?_; rintro e w' ⟨rfl, rfl⟩
      rw [HY.out]
      go_wp2_with fail
      refine (rrest_any _ n cp (i + 3) xs _ B.out).mono ?_; rintro e w' ⟨rfl, rfl⟩
      rw [HZ.out]
      go_wp2_with fail
      refine (ris2_any _ _).mono ?_; rintro e w' ⟨rfl, rfl⟩
      rw [R.out]
      go_wp2_with fail
      refine (rbytes_any _ _ R.out).mono ?_; rintro e w1 ⟨A, c1, rfl, _, hbel⟩
      rw [encL_length, S.out]
      go_wp2
      go_ret2
      exact ⟨rfl, hbel⟩
    · have e : endOf (c) 1 = (0, 0) := by unfold endOf; rw [if_pos (.inr hS)]
      rw [e]
      have R := Lib.hid hR
      generalize hq : sizeR (c) = q at *
      have S := Lib.hid hq
      have t9 : ((q : Int) != 1) = true := by simp; omega
      clear e hR hS hq
      go_enter Tryd.func53, Tryd.ntmps53
      go_wp2_with fail
      refine (rrest_any _ n cp (i + 1) xs _ B.out).mono ?_; rintro e w' ⟨rfl, rfl⟩
      rw [HX.out]
      go_wp2_with fail
      refine (rrest_any _ n cp (i + 2) xs _ B.out).mono ?_; rintro e w' ⟨rfl, rfl⟩
      rw [HY.out]
      go_wp2_with fail
      refine (rrest_any _ n cp (i + 3) xs _ B.out).mono ?_; rintro e w' ⟨rfl, rfl⟩
      rw [HZ.out]
      go_wp2_with fail
      refine (ris2_any _ _).mono ?_; rintro e w' ⟨rfl, rfl⟩
      rw [R.out]
      go_wp2_with fail
      refine (rbytes_any _ _ R.out).mono ?_; rintro e w1 ⟨A, c1, rfl, _, hbel⟩
      rw [encL_length, S.out]
      go_wp2
      go_ret2
      exact ⟨rfl, hbel⟩
set_option maxHeartbeats 2000000 in
set_option maxRecDepth 100000 in
theorem rchar2_at2 (a : Addr) (c : Int) (n cp i : Nat) (xs : List Int) (w : World) (hn : n ≤ 140737488355328) (hi : i < n) (hb : BytesAt w (some a) n xs) (hcell : w.cell? (a.add i) = some (.int .u8 c)) (h0 : 0 ≤ c) (h1 : c ≤ 255) (hc : 192 ≤ c ∧ c < 224) (hx0 : 0 ≤ rest xs (i + 1)) :
    Calls Tryd.prog 53 #[.slice (some a) n cp, .int .i64 i] w (TellChar (endOf ((c - 192) * 64 + rest xs (i + 1)) 2) w) := by
  have B := Lib.hid hb
  have e1 := rest_b xs (i + 1)
  have e2 := rest_b xs (i + 2)
  have e3 := rest_b xs (i + 3)
  generalize hX : rest xs (i + 1) = x at *
  generalize hY : rest xs (i + 2) = y at *
  generalize hZ : rest xs (i + 3) = z at *
  have HX := Lib.hid hX
  have HY := Lib.hid hY
  have HZ := Lib.hid hZ
  clear hX hY hZ hb
  cases hR : isR ((c - 192) * 64 + x) with
  | false =>
    have e : endOf ((c - 192) * 64 + x) 2 = (0, 0) := by unfold endOf; rw [if_pos (.inl hR)]
    rw [e]
    have R := Lib.hid hR
    clear e hR
    go_enter Tryd.func53, Tryd.ntmps53
    go_wp2_with fail
    refine (rrest_any _ n cp (i + 1) xs _ B.out).mono ?_; rintro e w' ⟨rfl, rfl⟩
    rw [HX.out]
    go_wp2_with fail
    refine (rrest_any _ n cp (i + 2) xs _ B.out).mono ?_; rintro e w' ⟨rfl, rfl⟩
    rw [HY.out]
    go_wp2_with fail
    refine (rrest_any _ n cp (i + 3) xs _ B.out).mono ?_; rintro e w' ⟨rfl, rfl⟩
    rw [HZ.out]
    go_wp2_with fail
    refine (ris2_any _ _).mono ?_; rintro e w' ⟨rfl, rfl⟩
    rw [R.out]
    go_wp2
    go_ret2
    exact ⟨rfl, Below.refl _ _⟩
  | true =>
    by_cases hS : sizeR ((c - 192) * 64 + x) = 2
    · have e : endOf ((c - 192) * 64 + x) 2 = ((c - 192) * 64 + x, 2) := by unfold endOf; rw [if_neg (by simp [hR, hS])]
      rw [e]
      have R := Lib.hid hR
      have S := Lib.hid hS
      clear e hR hS
      go_enter Tryd.func53, Tryd.ntmps53
      go_wp2_with fail
      refine (rrest_any _ n cp (i + 1) xs _ B.out).mono ?_; rintro e w' ⟨rfl, rfl⟩
      rw [HX.out]
      go_wp2_with fail
      refine (rrest_any _ n cp (i + 2) xs _ B.out).mono ?_; rintro e w' ⟨rfl, rfl⟩
      rw [HY.out]
      go_wp2_with fail
      refine (rrest_any _ n cp (i + 3) xs _ B.out).mono ?_; rintro e w' ⟨rfl, rfl⟩
      rw [HZ.out]
      go_wp2_with fail
      refine (ris2_any _ _).mono ?_; rintro e w' ⟨rfl, rfl⟩
      rw [R.out]
      go_wp2_with fail
      refine (rbytes_any _ _ R.out).mono ?_; rintro e w1 ⟨A, c1, rfl, _, hbel⟩
      rw [encL_length, S.out]
      go_wp2
      go_ret2
      exact ⟨rfl, hbel⟩
    · have e : endOf ((c - 192) * 64 + x) 2 = (0, 0) := by unfold endOf; rw [if_pos (.inr hS)]
      rw [e]
      have R := Lib.hid hR
      generalize hq : sizeR ((c - 192) * 64 + x) = q at *
      have S := Lib.hid hq
      have t9 : ((q : Int) != 2) = true := by simp; omega
      clear e hR hS hq
      go_enter Tryd.func53, Tryd.ntmps53
      go_wp2_with fail
      refine (rrest_any _ n cp (i + 1) xs _ B.out).mono ?_; rintro e w' ⟨rfl, rfl⟩
      rw [HX.out]
      go_wp2_with fail
      refine (rrest_any _ n cp (i + 2) xs _ B.out).mono ?_; rintro e w' ⟨rfl, rfl⟩
      rw [HY.out]
      go_wp2_with fail
      refine (rrest_any _ n cp (i + 3) xs _ B.out).mono ?_; rintro e w' ⟨rfl, rfl⟩
      rw [HZ.out]
      go_wp2_with fail
      refine (ris2_any _ _).mono ?_; rintro e w' ⟨rfl, rfl⟩
      rw [R.out]
      go_wp2_with fail
      refine (rbytes_any _ _ R.out).mono ?_; rintro e w1 ⟨A, c1, rfl, _, hbel⟩
      rw [encL_length, S.out]
      go_wp2
      go_ret2
      exact ⟨rfl, hbel⟩
set_option maxHeartbeats 2000000 in
set_option maxRecDepth 100000 in
theorem rchar2_at3 (a : Addr) (c : Int) (n cp i : Nat) (xs : List Int) (w : World) (hn : n ≤ 140737488355328) (hi : i < n) (hb : BytesAt w (some a) n xs) (hcell : w.cell? (a.add i) = some (.int .u8 c)) (h0 : 0 ≤ c) (h1 : c ≤ 255) (hc : 224 ≤ c ∧ c < 240) (hx0 : 0 ≤ rest xs (i + 1)) (hy0 : 0 ≤ rest xs (i + 2)) :
    Calls Tryd.prog 53 #[.slice (some a) n cp, .int .i64 i] w (TellChar (endOf (((c - 224) * 64 + rest xs (i + 1)) * 64 + rest xs (i + 2)) 3) w) := by
  have B := Lib.hid hb
  have e1 := rest_b xs (i + 1)
  have e2 := rest_b xs (i + 2)
  have e3 := rest_b xs (i + 3)
  generalize hX : rest xs (i + 1) = x at *
  generalize hY : rest xs (i + 2) = y at *
  generalize hZ : rest xs (i + 3) = z at *
  have HX := Lib.hid hX
  have HY := Lib.hid hY
  have HZ := Lib.hid hZ
  clear hX hY hZ hb
  cases hR : isR (((c - 224) * 64 + x) * 64 + y) with
  | false =>
    have e : endOf (((c - 224) * 64 + x) * 64 + y) 3 = (0, 0) := by unfold endOf; rw [if_pos (.inl hR)]
    rw [e]
    have R := Lib.hid hR
    clear e hR
    go_enter Tryd.func53, Tryd.ntmps53
    go_wp2_with fail
    refine (rrest_any _ n cp (i + 1) xs _ B.out).mono ?_; rintro e w' ⟨rfl, rfl⟩
    rw [HX.out]
    go_wp2_with fail
    refine (rrest_any _ n cp (i + 2) xs _ B.out).mono ?_; rintro e w' ⟨rfl, rfl⟩
    rw [HY.out]
    go_wp2_with fail
    refine (rrest_any _ n cp (i + 3) xs _ B.out).mono ?_; rintro e w' ⟨rfl, rfl⟩
    rw [HZ.out]
    go_wp2_with fail
    refine (ris2_any _ _).mono ?_; rintro e w' ⟨rfl, rfl⟩
    rw [R.out]
    go_wp2
    go_ret2
    exact ⟨rfl, Below.refl _ _⟩
  | true =>
    by_cases hS : sizeR (((c - 224) * 64 + x) * 64 + y) = 3
    · have e : endOf (((c - 224) * 64 + x) * 64 + y) 3 = (((c - 224) * 64 + x) * 64 + y, 3) := by unfold endOf; rw [if_neg (by simp [hR, hS])]
      rw [e]
      have R := Lib.hid hR
      have S := Lib.hid hS
      clear e hR hS
      go_enter Tryd.func53, Tryd.ntmps53
      go_wp2_with fail
      refine (rrest_any _ n cp (i + 1) xs _ B.out).mono ?_; rintro e w' ⟨rfl, rfl⟩
      rw [HX.out]
      go_wp2_with fail
      refine (rrest_any _ n cp (i + 2) xs _ B.out).mono ?_; rintro e w' ⟨rfl, rfl⟩
      rw [HY.out]
      go_wp2_with fail
      refine (rrest_any _ n cp (i + 3) xs _ B.out).mono ?_; rintro e w' ⟨rfl, rfl⟩
      rw [HZ.out]
      go_wp2_with fail
      refine (ris2_any _ _).mono ?_; rintro e w' ⟨rfl, rfl⟩
      rw [R.out]
      go_wp2_with fail
      refine (rbytes_any _ _ R.out).mono ?_; rintro e w1 ⟨A, c1, rfl, _, hbel⟩
      rw [encL_length, S.out]
      go_wp2
      go_ret2
      exact ⟨rfl, hbel⟩
    · have e : endOf (((c - 224) * 64 + x) * 64 + y) 3 = (0, 0) := by unfold endOf; rw [if_pos (.inr hS)]
      rw [e]
      have R := Lib.hid hR
      generalize hq : sizeR (((c - 224) * 64 + x) * 64 + y) = q at *
      have S := Lib.hid hq
      have t9 : ((q : Int) != 3) = true := by simp; omega
      clear e hR hS hq
      go_enter Tryd.func53, Tryd.ntmps53
      go_wp2_with fail
      refine (rrest_any _ n cp (i + 1) xs _ B.out).mono ?_; rintro e w' ⟨rfl, rfl⟩
      rw [HX.out]
      go_wp2_with fail
      refine (rrest_any _ n cp (i + 2) xs _ B.out).mono ?_; rintro e w' ⟨rfl, rfl⟩
      rw [HY.out]
      go_wp2_with fail
      refine (rrest_any _ n cp (i + 3) xs _ B.out).mono ?_; rintro e w' ⟨rfl, rfl⟩
      rw [HZ.out]
      go_wp2_with fail
      refine (ris2_any _ _).mono ?_; rintro e w' ⟨rfl, rfl⟩
      rw [R.out]
      go_wp2_with fail
      refine (rbytes_any _ _ R.out).mono ?_; rintro e w1 ⟨A, c1, rfl, _, hbel⟩
      rw [encL_length, S.out]
      go_wp2
      go_ret2
      exact ⟨rfl, hbel⟩
set_option maxHeartbeats 2000000 in
set_option maxRecDepth 100000 in
theorem rchar2_at4 (a : Addr) (c : Int) (n cp i : Nat) (xs : List Int) (w : World) (hn : n ≤ 140737488355328) (hi : i < n) (hb : BytesAt w (some a) n xs) (hcell : w.cell? (a.add i) = some (.int .u8 c)) (h0 : 0 ≤ c) (h1 : c ≤ 255) (hc : 240 ≤ c ∧ c < 248) (hx0 : 0 ≤ rest xs (i + 1)) (hy0 : 0 ≤ rest xs (i + 2)) (hz0 : 0 ≤ rest xs (i + 3)) :
    Calls Tryd.prog 53 #[.slice (some a) n cp, .int .i64 i] w (TellChar (endOf ((((c - 240) * 64 + rest xs (i + 1)) * 64 + rest xs (i + 2)) * 64 + rest xs (i + 3)) 4) w) := by
  have B := Lib.hid hb
  have e1 := rest_b xs (i + 1)
  have e2 := rest_b xs (i + 2)
  have e3 := rest_b xs (i + 3)
  generalize hX : rest xs (i + 1) = x at *
  generalize hY : rest xs (i + 2) = y at *
  generalize hZ : rest xs (i + 3) = z at *
  have HX := Lib.hid hX
  have HY := Lib.hid hY
  have HZ := Lib.hid hZ
  clear hX hY hZ hb
  cases hR : isR ((((c - 240) * 64 + x) * 64 + y) * 64 + z) with
  | false =>
    have e : endOf ((((c - 240) * 64 + x) * 64 + y) * 64 + z) 4 = (0, 0) := by unfold endOf; rw [if_pos (.inl hR)]
    rw [e]
    have R := Lib.hid hR
    clear e hR
    go_enter Tryd.func53, Tryd.ntmps53
    go_wp2_with fail
    refine (rrest_any _ n cp (i + 1) xs _ B.out).mono ?_; rintro e w' ⟨rfl, rfl⟩
    rw [HX.out]
    go_wp2_with fail
    refine (rrest_any _ n cp (i + 2) xs _ B.out).mono ?_; rintro e w' ⟨rfl, rfl⟩
    rw [HY.out]
    go_wp2_with fail
    refine (rrest_any _ n cp (i + 3) xs _ B.out).mono ?_; rintro e w' ⟨rfl, rfl⟩
    rw [HZ.out]
    go_wp2_with fail
    refine (ris2_any _ _).mono ?_; rintro e w' ⟨rfl, rfl⟩
    rw [R.out]
    go_wp2
    go_ret2
    exact ⟨rfl, Below.refl _ _⟩
  | true =>
    by_cases hS : sizeR ((((c - 240) * 64 + x) * 64 + y) * 64 + z) = 4
    · have e : endOf ((((c - 240) * 64 + x) * 64 + y) * 64 + z) 4 = ((((c - 240) * 64 + x) * 64 + y) * 64 + z, 4) := by unfold endOf; rw [if_neg (by simp [hR, hS])]
      rw [e]
      have R := Lib.hid hR
      have S := Lib.hid hS
      clear e hR hS
      go_enter Tryd.func53, Tryd.ntmps53
      go_wp2_with fail
      refine (rrest_any _ n cp (i + 1) xs _ B.out).mono ?_; rintro e w' ⟨rfl, rfl⟩
      rw [HX.out]
      go_wp2_with fail
      refine (rrest_any _ n cp (i + 2) xs _ B.out).mono ?_; rintro e w' ⟨rfl, rfl⟩
      rw [HY.out]
      go_wp2_with fail
      refine (rrest_any _ n cp (i + 3) xs _ B.out).mono ?_; rintro e w' ⟨rfl, rfl⟩
      rw [HZ.out]
      go_wp2_with fail
      refine (ris2_any _ _).mono ?_; rintro e w' ⟨rfl, rfl⟩
      rw [R.out]
      go_wp2_with fail
      refine (rbytes_any _ _ R.out).mono ?_; rintro e w1 ⟨A, c1, rfl, _, hbel⟩
      rw [encL_length, S.out]
      go_wp2
      go_ret2
      exact ⟨rfl, hbel⟩
    · have e : endOf ((((c - 240) * 64 + x) * 64 + y) * 64 + z) 4 = (0, 0) := by unfold endOf; rw [if_pos (.inr hS)]
      rw [e]
      have R := Lib.hid hR
      generalize hq : sizeR ((((c - 240) * 64 + x) * 64 + y) * 64 + z) = q at *
      have S := Lib.hid hq
      have t9 : ((q : Int) != 4) = true := by simp; omega
      clear e hR hS hq
      go_enter Tryd.func53, Tryd.ntmps53
      go_wp2_with fail
      refine (rrest_any _ n cp (i + 1) xs _ B.out).mono ?_; rintro e w' ⟨rfl, rfl⟩
      rw [HX.out]
      go_wp2_with fail
      refine (rrest_any _ n cp (i + 2) xs _ B.out).mono ?_; rintro e w' ⟨rfl, rfl⟩
      rw [HY.out]
      go_wp2_with fail
      refine (rrest_any _ n cp (i + 3) xs _ B.out).mono ?_; rintro e w' ⟨rfl, rfl⟩
      rw [HZ.out]
      go_wp2_with fail
      refine (ris2_any _ _).mono ?_; rintro e w' ⟨rfl, rfl⟩
      rw [R.out]
      go_wp2_with fail
      refine (rbytes_any _ _ R.out).mono ?_; rintro e w1 ⟨A, c1, rfl, _, hbel⟩
      rw [encL_length, S.out]
      go_wp2
      go_ret2
      exact ⟨rfl, hbel⟩
theorem charAt_of (xs : List Int) (i : Nat) (r : Int) (m : Nat) (hc : cand (xs.getD i 0) (rest xs (i + 1)) (rest xs (i + 2)) (rest xs (i + 3)) = (r, m)) (hm : m ≠ 0) : charAt xs i = endOf r m := by
  unfold charAt charOf endOf
  rw [hc]
  simp only [hm, false_or]
theorem charAt_none (xs : List Int) (i : Nat) (hc : (cand (xs.getD i 0) (rest xs (i + 1)) (rest xs (i + 2)) (rest xs (i + 3))).2 = 0) : charAt xs i = (0, 0) := by
  unfold charAt charOf; rw [if_pos (.inl hc)]
theorem rchar2_any (A : Option Addr) (n cp i : Nat) (xs : List Int) (w : World) (hn : n ≤ 140737488355328) (hb : BytesAt w A n xs) (hi : i < n) :
    Calls Tryd.prog 53 #[.slice A n cp, .int .i64 i] w (TellChar (charAt xs i) w) := by
  by_cases hc : (cand (xs.getD i 0) (rest xs (i + 1)) (rest xs (i + 2)) (rest xs (i + 3))).2 = 0
  · rw [charAt_none xs i hc]; exact rchar2_none A n cp i xs w hn hb hi hc
  · obtain ⟨a, c, rfl, hx, h0, h1, _, hcell⟩ := hb.2 i hi
    have e0 : xs.getD i 0 = c := by rw [List.getD_eq_getElem?_getD, hx]; rfl
    rw [e0] at hc
    by_cases k1 : c < 128
    · rw [charAt_of xs i c 1 (by rw [e0]; unfold cand; rw [if_pos k1]) (by omega)]
      exact rchar2_at1 a c n cp i xs w hn hi hb hcell h0 h1 k1
    · by_cases k2 : 192 ≤ c ∧ c < 224 ∧ 0 ≤ rest xs (i + 1)
      · rw [charAt_of xs i _ 2 (by rw [e0]; unfold cand; rw [if_neg k1, if_pos k2]) (by omega)]
        exact rchar2_at2 a c n cp i xs w hn hi hb hcell h0 h1 ⟨k2.1, k2.2.1⟩ k2.2.2
      · by_cases k3 : 224 ≤ c ∧ c < 240 ∧ 0 ≤ rest xs (i + 1) ∧ 0 ≤ rest xs (i + 2)
        · rw [charAt_of xs i _ 3 (by rw [e0]; unfold cand; rw [if_neg k1, if_neg k2, if_pos k3]) (by omega)]
          exact rchar2_at3 a c n cp i xs w hn hi hb hcell h0 h1 ⟨k3.1, k3.2.1⟩ k3.2.2.1 k3.2.2.2
        · by_cases k4 : 240 ≤ c ∧ c < 248 ∧ 0 ≤ rest xs (i + 1) ∧ 0 ≤ rest xs (i + 2) ∧ 0 ≤ rest xs (i + 3)
          · rw [charAt_of xs i _ 4 (by rw [e0]; unfold cand; rw [if_neg k1, if_neg k2, if_neg k3, if_pos k4]) (by omega)]
            exact rchar2_at4 a c n cp i xs w hn hi hb hcell h0 h1 ⟨k4.1, k4.2.1⟩ k4.2.2.1 k4.2.2.2.1 k4.2.2.2.2
          · exfalso; apply hc; unfold cand; rw [if_neg k1, if_neg k2, if_neg k3, if_neg k4]
end Go.Proofs.YtlifdmehejehjaaDoor
