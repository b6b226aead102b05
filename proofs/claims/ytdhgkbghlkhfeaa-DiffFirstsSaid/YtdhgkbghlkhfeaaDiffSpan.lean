/- The contract of diff.Span: where an element ends. Conditions: at most 2^40 events. -/
import Derived.Test.YtdhgkbghlkhfeaaDiffPath
import Derived.Deep.Slices
namespace Go.Proofs.Ytdhgkbghlkhfeaa
open Go.RowKit
def delta (e : Ev) : Int := if e.k = 1 then 1 else if e.k = 2 then -1 else 0
def depthK (l : List Ev) (k : Nat) : Int := ((l.take k).map delta).sum
theorem depthK_zero (l : List Ev) : depthK l 0 = 0 := by simp [depthK]
theorem depthK_succ (l : List Ev) (k : Nat) (e : Ev) (h : l[k]? = some e) : depthK l (k + 1) = depthK l k + delta e := by
  unfold depthK; rw [List.take_add_one, h]; simp
theorem delta_b (e : Ev) : -1 ≤ delta e ∧ delta e ≤ 1 := by unfold delta; split <;> (try split) <;> omega
theorem depthK_b (l : List Ev) (k : Nat) : -(k : Int) ≤ depthK l k ∧ depthK l k ≤ k := by
  induction k with
  | zero => simp [depthK]
  | succ k ih =>
    cases h : l[k]? with
    | some e => rw [depthK_succ l k e h]; have := delta_b e; omega
    | none =>
      have h1 : l.length ≤ k := List.getElem?_eq_none_iff.1 h
      have h2 : depthK l (k + 1) = depthK l k := by unfold depthK; rw [List.take_of_length_le (by omega), List.take_of_length_le h1]
      rw [h2]; omega
/-- The first place, counted from here, behind which as much has ended as has begun. -/
def spanF (l : List Ev) : Option Nat := (List.range l.length).find? fun j => decide (depthK l (j + 1) = 0)
theorem spanF_some {l : List Ev} {k : Nat} (hk : k < l.length) (h : depthK l (k + 1) = 0) (h0 : ∀ i, i < k → ¬ depthK l (i + 1) = 0) : spanF l = some k := by
  unfold spanF
  rw [List.find?_range_eq_some]
  exact ⟨decide_eq_true h, List.mem_range.2 hk, fun j hj => by simpa using h0 j hj⟩
theorem spanF_none {l : List Ev} (h0 : ∀ i, i < l.length → ¬ depthK l (i + 1) = 0) : spanF l = none := by
  unfold spanF
  rw [List.find?_range_eq_none]
  exact fun i hi => by simpa using h0 i hi
def spanRes (k0 : Nat) (o : Option Nat) : Int × Int := match o with | some j => (((k0 + j : Nat) : Int), 0) | none => (0, 4)
/-- What diff.Span tells: the place, and the error. -/
def spanR (l : List Ev) (k0 : Nat) : Int × Int :=
  match l[k0]? with
  | none => (0, 3)
  | some e => if e.k = 1 then (spanRes k0 (spanF (l.drop k0))) else (0, 4)
def TellSpan (p : Int × Int) (w : World) (e : Ending) (w' : World) : Prop := e = .returned (.tuple #[.int .i64 p.1, .int .i64 p.2]) ∧ Below w.heap.size w w'
theorem span_range (A : Option Addr) (n c : Nat) (at' : Int) (w : World) (hc2 : n ≤ 9223372036854775807) (h : at' < 0 ∨ (n : Int) ≤ at') :
    Calls Try.prog 9 #[.slice A n c, .int .i64 at'] w (TellSpan (0, 3) w) := by
  rcases h with h | h
  · have t0 : decide (at' < 0) = true := by simpa using h
    go_enter Try.func9, Try.ntmps9
    go_wp2
    go_ret2
    exact ⟨rfl, Below.refl _ _⟩
  · have t0 : decide (at' < 0) = false := by simp; omega
    have t1 : decide ((n : Int) ≤ at') = true := by simpa using h
    go_enter Try.func9, Try.ntmps9
    go_wp2
    go_ret2
    exact ⟨rfl, Below.refl _ _⟩
set_option maxHeartbeats 2000000 in
theorem span_none (A : Option Addr) (n c : Nat) (l : List Ev) (k0 : Nat) (e0 : Ev) (w : World) (hl : EvsAt w A n l) (hk : k0 < n) (hx0 : l[k0]? = some e0) (h1 : ¬ e0.k = 1) :
    Calls Try.prog 9 #[.slice A n c, .int .i64 k0] w (TellSpan (0, 4) w) := by
  obtain ⟨a, e, rfl, hx, he, hok⟩ := hl.2 k0 hk
  rw [hx0] at hx; cases hx
  obtain ⟨_, g0, g1, g2, g3, g4⟩ := he
  have t0 : ¬ ((k0 : Int) < 0) := by omega
  have t1 : ¬ n ≤ k0 := by omega
  have t2 : (e0.k != 1) = true := by simpa using h1
  have b0 : (0 : Int) ≤ (k0 : Int) := by omega
  have b1 : (k0 : Int) < (n : Int) := by omega
  clear hl hok hx0 h1
  go_enter Try.func9, Try.ntmps9
  go_wp2
  go_ret2
  exact ⟨rfl, Below.refl _ _⟩
theorem EvsAt.drop {w : World} {a : Addr} {n : Nat} {l : List Ev} (h : EvsAt w (some a) n l) (k : Nat) : EvsAt w (some (a.add (k * 5))) (n - k) (l.drop k) := by
  refine ⟨by rw [List.length_drop, h.1], fun i hi => ?_⟩
  obtain ⟨b, e, hA, hx, he, hok⟩ := h.2 (k + i) (by omega)
  cases hA
  refine ⟨a.add (k * 5), e, rfl, by rw [List.getElem?_drop]; exact hx, ?_, hok⟩
  rw [Go.Deep.add_add, ← Nat.add_mul]
  exact he
set_option maxHeartbeats 4000000 in
theorem span_some (a0 : Addr) (n c : Nat) (l : List Ev) (k0 : Nat) (e0 : Ev) (w : World) (hl : EvsAt w (some a0) n l) (hn : n ≤ 1099511627776) (hc : n ≤ c) (hk : k0 < n) (hx0 : l[k0]? = some e0) (h1 : e0.k = 1) :
    Calls Try.prog 9 #[.slice (some a0) n c, .int .i64 k0] w (TellSpan (spanRes k0 (spanF (l.drop k0))) w) := by
  obtain ⟨a, e, hA, hx, he, hok⟩ := hl.2 k0 hk
  cases hA
  rw [hx0] at hx; cases hx
  obtain ⟨_, g0, _, _, _, _⟩ := he
  have L := Lib.hid (hl.drop k0)
  have hl9 := (hl.drop k0).1
  have t0 : ¬ ((k0 : Int) < 0) := by omega
  have t1 : ¬ n ≤ k0 := by omega
  have t2 : (e0.k != 1) = false := by simpa using h1
  have b0 : (0 : Int) ≤ (k0 : Int) := by omega
  have b1 : (k0 : Int) < (n : Int) := by omega
  have t3 : ¬ c = k0 := by omega
  generalize hm : n - k0 = m at *
  have hmn : k0 + m = n := by omega
  have DL := Lib.hid hl9
  have D1 : Hid (depthK (l.drop k0) 1 = 1) := by
    show _ = _
    rw [depthK_succ _ 0 e0 (by rw [List.getElem?_drop]; exact hx0), depthK_zero]
    unfold delta; rw [if_pos h1]; rfl
  generalize hl' : l.drop k0 = l' at *
  clear hl hok hx0 h1 hl9 hl'
  go_enter Try.func9, Try.ntmps9
  go_wp2
  go_loopw [6, 29] (fun dp i wr => ∃ (k : Nat), k ≤ m ∧ i = .int .i64 k ∧ dp = .int .i64 (depthK l' k) ∧ Hid (∀ i, i < k → ¬ depthK l' (i + 1) = 0) ∧ Hid (Below w.heap.size w wr)) (fun _ i _ => m - (intOf i).toNat)
  case atStart => exact ⟨0, by omega, rfl, by rw [depthK_zero], (fun i hi => by omega), Below.refl _ _⟩
  case round =>
    obtain ⟨k, hk, rfl, rfl, HS, HB⟩ := hrel
    by_cases hlt : k < m
    · obtain ⟨a, e, hA, hx, he, hok⟩ := L.out.2 k (by omega)
      cases hA
      have b2 : (0 : Int) ≤ (k : Int) := by omega
      have b3 : (k : Int) < (m : Int) := by omega
      have hd := depthK_succ l' k e hx
      have hdb := depthK_b l' k
      have hdb1 := depthK_b l' (k + 1)
      obtain ⟨_, i0, i1, i2, i3, i4⟩ := he.below HB.out he.1
      have HB1 := HB.out.alloc HB.out.size (.cells #[.int .i64 e.k, .string e.sp, .string e.lo, .slice e.A e.n e.c, .string e.tx] 31)
      have LT : Hid (k < l'.length) := by show _ < _; rw [DL.out]; exact hlt
      generalize hD : depthK l' k = D at *
      generalize hD' : depthK l' (k + 1) = D' at *
      have DD := Lib.hid hD'
      clear he hok hx hD hD'
      by_cases h1 : e.k = 1
      · have q1 : (e.k == 1) = true := by simpa using h1
        have q2 : D' = D + 1 := by rw [hd]; unfold delta; rw [if_pos h1]
        have s1 : IntKind.i64.wrap (D + 1) = D + 1 := IntWalk.i64_in _ (by omega)
        have q3 : (e.k == 2) = false := by rw [h1]; rfl
        subst q2
        by_cases hz : D + 1 = 0
        · have q4 : (D + 1 == 0) = true := by simpa using hz
          have s2 : IntKind.i64.wrap ((k0 : Int) + k) = (k0 : Int) + k := IntWalk.i64_in _ (by omega)
          have G := Lib.hid (spanF_some (l := l') LT.out (DD.out.trans hz) HS.out)
          clear hd hdb hdb1 h1 hz
          go_wp2
          go_ret2
          rw [G.out]
          exact ⟨by show _ = Ending.returned (.tuple #[.int .i64 ((k0 + k : Nat) : Int), .int .i64 0]); rw [Int.natCast_add]; rfl, HB1⟩
        · have q4 : (D + 1 == 0) = false := by simpa using hz
          have HS2 := Lib.hid (show ∀ i, i < k + 1 → ¬ depthK l' (i + 1) = 0 from fun i hi => by
            by_cases hik : i = k
            · subst hik; rw [DD.out]; exact hz
            · exact HS.out i (by omega))
          clear hd hdb hdb1 h1 hz
          go_wp2
          go_roundw
          case rel => exact ⟨k + 1, by omega, by go_num, by rw [DD.out], HS2, HB1⟩
          case measure => simp [intOf]; omega
      · have q1 : (e.k == 1) = false := by simpa using h1
        by_cases h2 : e.k = 2
        · have q3 : (e.k == 2) = true := by rw [h2]; rfl
          have q2 : D' = D - 1 := by rw [hd]; unfold delta; rw [if_neg h1, if_pos h2]; rfl
          have s1 : IntKind.i64.wrap (D - 1) = D - 1 := IntWalk.i64_in _ (by omega)
          subst q2
          by_cases hz : D - 1 = 0
          · have q4 : (D - 1 == 0) = true := by simpa using hz
            have s2 : IntKind.i64.wrap ((k0 : Int) + k) = (k0 : Int) + k := IntWalk.i64_in _ (by omega)
            have G := Lib.hid (spanF_some (l := l') LT.out (DD.out.trans hz) HS.out)
            clear hd hdb hdb1 h1 h2 hz
            go_wp2
            go_ret2
            rw [G.out]
            exact ⟨by show _ = Ending.returned (.tuple #[.int .i64 ((k0 + k : Nat) : Int), .int .i64 0]); rw [Int.natCast_add]; rfl, HB1⟩
          · have q4 : (D - 1 == 0) = false := by simpa using hz
            have HS2 := Lib.hid (show ∀ i, i < k + 1 → ¬ depthK l' (i + 1) = 0 from fun i hi => by
              by_cases hik : i = k
              · subst hik; rw [DD.out]; exact hz
              · exact HS.out i (by omega))
            clear hd hdb hdb1 h1 h2 hz
            go_wp2
            go_roundw
            case rel => exact ⟨k + 1, by omega, by go_num, by rw [DD.out], HS2, HB1⟩
            case measure => simp [intOf]; omega
        · have q3 : (e.k == 2) = false := by simpa using h2
          have q2 : D' = D := by rw [hd]; unfold delta; rw [if_neg h1, if_neg h2]; omega
          subst q2
          by_cases hz : D' = 0
          · have q4 : (D' == 0) = true := by simpa using hz
            have s2 : IntKind.i64.wrap ((k0 : Int) + k) = (k0 : Int) + k := IntWalk.i64_in _ (by omega)
            have G := Lib.hid (spanF_some (l := l') LT.out (DD.out.trans hz) HS.out)
            clear hd hdb hdb1 h1 h2 hz
            go_wp2
            go_ret2
            rw [G.out]
            exact ⟨by show _ = Ending.returned (.tuple #[.int .i64 ((k0 + k : Nat) : Int), .int .i64 0]); rw [Int.natCast_add]; rfl, HB1⟩
          · have q4 : (D' == 0) = false := by simpa using hz
            have HS2 := Lib.hid (show ∀ i, i < k + 1 → ¬ depthK l' (i + 1) = 0 from fun i hi => by
              by_cases hik : i = k
              · subst hik; rw [DD.out]; exact hz
              · exact HS.out i (by omega))
            clear hd hdb hdb1 h1 h2 hz
            go_wp2
            go_roundw
            case rel => exact ⟨k + 1, by omega, by go_num, by rw [DD.out], HS2, HB1⟩
            case measure => simp [intOf]; omega
    · obtain rfl : k = m := by omega
      have G := Lib.hid (spanF_none (l := l') (by rw [DL.out]; exact HS.out))
      go_wp2
      go_ret2
      rw [G.out]
      exact ⟨rfl, HB.out⟩
/-- diff.Span, at any place. -/
theorem span_any (A : Option Addr) (n c : Nat) (l : List Ev) (k0 : Nat) (e0 : Ev) (w : World) (hl : EvsAt w A n l) (hn : n ≤ 1099511627776) (hc : n ≤ c) (hx0 : l[k0]? = some e0) :
    Calls Try.prog 9 #[.slice A n c, .int .i64 k0] w (TellSpan (spanR l k0) w) := by
  have hk : k0 < n := by have := (List.getElem?_eq_some_iff.1 hx0).1; rw [hl.1] at this; exact this
  unfold spanR
  rw [hx0]
  by_cases h1 : e0.k = 1
  · obtain ⟨a, e, rfl, _⟩ := hl.2 k0 hk
    simp only [if_pos h1]
    exact span_some a n c l k0 e0 w hl hn hc hk hx0 h1
  · simp only [if_neg h1]
    exact span_none A n c l k0 e0 w hl hk hx0 h1
end Go.Proofs.Ytdhgkbghlkhfeaa
