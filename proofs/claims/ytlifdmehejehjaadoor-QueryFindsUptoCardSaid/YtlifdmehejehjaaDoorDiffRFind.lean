/- The contracts of narthexref42.Find and Span. Conditions: at most 2^20 events. -/
import Derived.Test.YtlifdmehejehjaaDoorDiffRPath
import Derived.Test.YtlifdmehejehjaaDoorDiffFind
import Derived.Test.YtlifdmehejehjaaDoorDiffSpan
namespace Go.Proofs.YtlifdmehejehjaaDoor
open Go.RowKit
/-- As long as it has not come back to nothing, something is open. -/
theorem depth_pos {l : List Ev} (h1 : depthK l 1 = 1) (j : Nat) (hj : j < l.length) (h : ∀ i, i < j + 1 → ¬ depthK l (i + 1) = 0) : 1 ≤ depthK l (j + 1) := by
  induction j with
  | zero => show 1 ≤ depthK l 1; omega
  | succ j ih =>
    have h2 := ih (by omega) fun i hi => h i (by omega)
    have h3 := depthK_succ l (j + 1) l[j + 1] (List.getElem?_eq_getElem hj)
    have h4 := delta_b l[j + 1]
    have h5 := h (j + 1) (by omega)
    omega
theorem depth_end {l : List Ev} {j : Nat} {e : Ev} (h1 : depthK l 1 = 1) (hx : l[j]? = some e) (h : ∀ i, i < j → ¬ depthK l (i + 1) = 0) (hz : depthK l (j + 1) = 0) : e.k = 2 := by
  have hj := (List.getElem?_eq_some_iff.1 hx).1
  have h3 := depthK_succ l j e hx
  cases j with
  | zero => have hz' : depthK l 1 = 0 := hz; omega
  | succ j =>
    have h2 := depth_pos h1 j (by omega) fun i hi => h i (by omega)
    rw [hz] at h3
    unfold delta at h3
    split at h3
    · omega
    · split at h3
      · assumption
      · omega
theorem rspan_range (A : Option Addr) (n c : Nat) (at' : Int) (w : World) (hc2 : n ≤ 9223372036854775807) (h : at' < 0 ∨ (n : Int) ≤ at') :
    Calls Tryd.prog 37 #[.slice A n c, .int .i64 at'] w (TellSpan (0, 3) w) := by
  rcases h with h | h
  · have t0 : decide (at' < 0) = true := by simpa using h
    go_enter Tryd.func37, Tryd.ntmps37
    go_wp2
    go_ret2
    exact ⟨rfl, Below.refl _ _⟩
  · have t0 : decide (at' < 0) = false := by simp; omega
    have t1 : decide ((n : Int) ≤ at') = true := by simpa using h
    go_enter Tryd.func37, Tryd.ntmps37
    go_wp2
    go_ret2
    exact ⟨rfl, Below.refl _ _⟩
set_option maxHeartbeats 2000000 in
theorem rspan_none (A : Option Addr) (n c : Nat) (l : List Ev) (k0 : Nat) (e0 : Ev) (w : World) (hl : EvsAt w A n l) (hk : k0 < n) (hx0 : l[k0]? = some e0) (h1 : ¬ e0.k = 1) :
    Calls Tryd.prog 37 #[.slice A n c, .int .i64 k0] w (TellSpan (0, 4) w) := by
  obtain ⟨a, e, rfl, hx, he, hok⟩ := hl.2 k0 hk
  rw [hx0] at hx; cases hx
  obtain ⟨_, g0, g1, g2, g3, g4⟩ := he
  have t0 : ¬ ((k0 : Int) < 0) := by omega
  have t1 : ¬ n ≤ k0 := by omega
  have t2 : (e0.k != 1) = true := by simpa using h1
  have b0 : (0 : Int) ≤ (k0 : Int) := by omega
  have b1 : (k0 : Int) < (n : Int) := by omega
  clear hl hok hx0 h1
  go_enter Tryd.func37, Tryd.ntmps37
  go_wp2
  go_ret2
  exact ⟨rfl, Below.refl _ _⟩
set_option maxRecDepth 100000 in
set_option maxHeartbeats 8000000 in
theorem rspan_some (a0 : Addr) (n c : Nat) (l : List Ev) (k0 : Nat) (e0 : Ev) (w : World) (hl : EvsAt w (some a0) n l) (hn : n ≤ 1048576) (hk : k0 < n) (hx0 : l[k0]? = some e0) (h1 : e0.k = 1) :
    Calls Tryd.prog 37 #[.slice (some a0) n c, .int .i64 k0] w (TellSpan (spanRes k0 (spanF (l.drop k0))) w) := by
  obtain ⟨a, e, hA, hx, he, hok⟩ := hl.2 k0 hk
  cases hA
  rw [hx0] at hx; cases hx
  obtain ⟨_, g0, _, _, _, _⟩ := he
  have L := Lib.hid hl
  have t0 : ¬ ((k0 : Int) < 0) := by omega
  have t1 : ¬ n ≤ k0 := by omega
  have t2 : (e0.k != 1) = false := by simpa using h1
  have b0 : (0 : Int) ≤ (k0 : Int) := by omega
  have b1 : (k0 : Int) < (n : Int) := by omega
  have D1 : Hid (depthK (l.drop k0) 1 = 1) := by
    show _ = _
    rw [depthK_succ _ 0 e0 (by rw [List.getElem?_drop]; exact hx0), depthK_zero]
    unfold delta; rw [if_pos h1]; rfl
  have LN := Lib.hid hl.1
  have s1 : IntKind.i64.wrap ((k0 : Int) + 1) = ((k0 + 1 : Nat) : Int) := by rw [IntWalk.i64_in _ (by omega)]; omega
  clear hl hok hx0 h1
  go_enter Tryd.func37, Tryd.ntmps37
  go_wp2
  go_loop [6] (fun t => ∃ (j T : Nat), 1 ≤ j ∧ T = k0 + j ∧ T ≤ n ∧ t = .int .i64 (T : Int) ∧ Hid (∀ i, i < j → ¬ depthK (l.drop k0) (i + 1) = 0)) (fun t => n - (intOf t).toNat)
  case atStart => exact ⟨1, k0 + 1, by omega, rfl, by omega, rfl, fun i hi h => by
    obtain rfl : i = 0 := by omega
    have h' : depthK (l.drop k0) 1 = 0 := h
    rw [D1.out] at h'
    omega⟩
  case round =>
    obtain ⟨j, T, hj1, hT, hj2, rfl, HS⟩ := hrel
    have HT := Lib.hid hT
    clear hT
    by_cases hlt : T < n
    · have c1 : (T : Int) < (n : Int) := by omega
      have c0 : (0 : Int) ≤ (T : Int) := by omega
      go_wp2
      go_loop [7, 8] (fun d i => ∃ (q t : Nat), q ≤ j + 1 ∧ t = k0 + q ∧ i = .int .i64 (t : Int) ∧ d = .int .i64 (depthK (l.drop k0) q)) (fun _ i => T + 1 - (intOf i).toNat)
      case atStart => exact ⟨0, k0, by omega, rfl, rfl, by rw [depthK_zero]⟩
      case round =>
        obtain ⟨q, t, hq, ht, rfl, rfl⟩ := hrel
        have Ht := Lib.hid ht
        clear ht
        by_cases hqj : t ≤ T
        · have htn : t < n := by omega
          obtain ⟨a, e, hA, hx, he, hok⟩ := L.out.2 t htn
          cases hA
          have d0 : (0 : Int) ≤ (t : Int) := by omega
          have d1 : (t : Int) < (n : Int) := by omega
          have d2 : (t : Int) ≤ (T : Int) := by omega
          have hqn : q ≤ n := by have := Ht.out; omega
          have hx' : (l.drop k0)[q]? = some e := by rw [List.getElem?_drop, ← Ht.out]; exact hx
          have hd := depthK_succ _ q e hx'
          have hdb := depthK_b (l.drop k0) q
          obtain ⟨_, i0, _⟩ := he
          generalize hD : depthK (l.drop k0) q = D at *
          clear hok hx hx' hD
          by_cases h1 : e.k = 1
          · have q1 : (e.k == 1) = true := by simpa using h1
            have q3 : (e.k == 2) = false := by rw [h1]; rfl
            have q2 : depthK (l.drop k0) (q + 1) = D + 1 := by rw [hd]; unfold delta; rw [if_pos h1]
            have s2 : IntKind.i64.wrap (D + 1) = D + 1 := IntWalk.i64_in _ (by omega)
            have Q := Lib.hid q2
            clear hd h1 q2
            go_wp2
            go_round
            case rel => exact ⟨q + 1, t + 1, by have := Ht.out; have := HT.out; omega, by have := Ht.out; omega, by go_num, by rw [Q.out]⟩
            case measure => simp [intOf]; omega
          · have q1 : (e.k == 1) = false := by simpa using h1
            by_cases h2 : e.k = 2
            · have q3 : (e.k == 2) = true := by simpa using h2
              have q2 : depthK (l.drop k0) (q + 1) = D - 1 := by rw [hd]; unfold delta; rw [if_neg h1, if_pos h2]; rfl
              have s2 : IntKind.i64.wrap (D - 1) = D - 1 := IntWalk.i64_in _ (by omega)
              have Q := Lib.hid q2
              clear hd h1 h2 q2
              go_wp2
              go_round
              case rel => exact ⟨q + 1, t + 1, by have := Ht.out; have := HT.out; omega, by have := Ht.out; omega, by go_num, by rw [Q.out]⟩
              case measure => simp [intOf]; omega
            · have q3 : (e.k == 2) = false := by simpa using h2
              have q2 : depthK (l.drop k0) (q + 1) = D := by rw [hd]; unfold delta; rw [if_neg h1, if_neg h2]; omega
              have Q := Lib.hid q2
              clear hd h1 h2 q2
              go_wp2
              go_round
              case rel => exact ⟨q + 1, t + 1, by have := Ht.out; have := HT.out; omega, by have := Ht.out; omega, by go_num, by rw [Q.out]⟩
              case measure => simp [intOf]; omega
        · obtain rfl : q = j + 1 := by have := Ht.out; have := HT.out; omega
          have d2 : ¬ (t : Int) ≤ (T : Int) := by omega
          obtain ⟨a, e, hA, hx, he, hok⟩ := L.out.2 T hlt
          cases hA
          have hx' : (l.drop k0)[j]? = some e := by rw [List.getElem?_drop, ← HT.out]; exact hx
          have hjl : j < (l.drop k0).length := (List.getElem?_eq_some_iff.1 hx').1
          obtain ⟨_, i0, _⟩ := he
          by_cases hz : depthK (l.drop k0) (j + 1) = 0
          · have K2 := depth_end D1.out hx' HS.out hz
            have q3 : (e.k == 2) = true := by rw [K2]; rfl
            have q4 : (depthK (l.drop k0) (j + 1) == 0) = true := by rw [hz]; rfl
            have G := Lib.hid (spanF_some hjl hz HS.out)
            clear hok hx hx' hz K2 hjl
            go_wp2
            go_ret2
            rw [G.out]
            exact ⟨by show _ = Ending.returned (.tuple #[.int .i64 ((k0 + j : Nat) : Int), .int .i64 0]); rw [← HT.out]; rfl, Below.refl _ _⟩
          · have q4 : (depthK (l.drop k0) (j + 1) == 0) = false := by simpa using hz
            have HS2 := Lib.hid (show ∀ i, i < j + 1 → ¬ depthK (l.drop k0) (i + 1) = 0 from fun i hi => by
              by_cases hik : i = j
              · subst hik; exact hz
              · exact HS.out i (by omega))
            clear hok hx hx' hz hjl
            go_wp2
            go_round
            case rel => exact ⟨j + 1, T + 1, by omega, by have := HT.out; omega, by omega, by go_num, HS2⟩
            case measure => simp [intOf]; omega
    · have c1 : ¬ (T : Int) < (n : Int) := by omega
      have G := Lib.hid (spanF_none (l := l.drop k0) (fun i hi => HS.out i (by rw [List.length_drop, LN.out] at hi; have := HT.out; omega)))
      go_wp2
      go_ret2
      rw [G.out]
      exact ⟨rfl, Below.refl _ _⟩
theorem rspan_any (A : Option Addr) (n c : Nat) (l : List Ev) (k0 : Nat) (e0 : Ev) (w : World) (hl : EvsAt w A n l) (hn : n ≤ 1048576) (hx0 : l[k0]? = some e0) :
    Calls Tryd.prog 37 #[.slice A n c, .int .i64 k0] w (TellSpan (spanR l k0) w) := by
  have hk : k0 < n := by have := (List.getElem?_eq_some_iff.1 hx0).1; rw [hl.1] at this; exact this
  unfold spanR
  rw [hx0]
  by_cases h1 : e0.k = 1
  · obtain ⟨a, e, rfl, _⟩ := hl.2 k0 hk
    simp only [if_pos h1]
    exact rspan_some a n c l k0 e0 w hl hn hk hx0 h1
  · simp only [if_neg h1]
    exact rspan_none A n c l k0 e0 w hl hk hx0 h1
end Go.Proofs.YtlifdmehejehjaaDoor
