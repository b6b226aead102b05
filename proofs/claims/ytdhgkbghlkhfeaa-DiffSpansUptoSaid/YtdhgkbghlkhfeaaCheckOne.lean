/- The contract of narthexref40.One: it ends and tells something. Conditions: an event that is not great. -/
import Derived.Test.YtdhgkbghlkhfeaaCheckText
namespace Go.Proofs.Ytdhgkbghlkhfeaa
open Go.RowKit Go.Proofs.Ytdhgkbghlkhfeaa.UtfPlain Go.Proofs.Ytdhgkbghlkhfeaa.NamePlain Go.Proofs.Ytdhgkbghlkhfeaa.CharsPlain
set_option maxRecDepth 100000 in
set_option maxHeartbeats 8000000 in
theorem conE_any (e : Ev) (w : World) (hok : EvOk w e) (hs : e.all ≤ 1048576) :
    Calls Try.prog 25 #[.agg #[.int .i64 e.k, .string e.sp, .string e.lo, .slice e.A e.n e.c, .string e.tx]] w (SomeI w) := by
  obtain ⟨W, hW, hB0, c0, c1, c2, c3, c4⟩ := evBox w e 31
  have OK := Lib.hid (hok.below hB0)
  have hsz0 := hB0.size
  have B0 := Lib.hid hB0
  have BX := Lib.hid (show w.heap.size < W.heap.size by rw [← hW]; simp)
  have CS := Lib.hid (And.intro c0 (And.intro c1 (And.intro c2 (And.intro c3 c4))))
  have cells : ∀ V, Below W.heap.size W V → V.cell? ⟨w.heap.size, 0, none⟩ = some (.int .i64 e.k) ∧ V.cell? ⟨w.heap.size, 1, none⟩ = some (.string e.sp) ∧ V.cell? ⟨w.heap.size, 2, none⟩ = some (.string e.lo) ∧ V.cell? ⟨w.heap.size, 3, none⟩ = some (.slice e.A e.n e.c) ∧ V.cell? ⟨w.heap.size, 4, none⟩ = some (.string e.tx) := fun V hV =>
    ⟨(hV.cell (p := ⟨w.heap.size, 0, none⟩) BX.out).trans CS.out.1, (hV.cell (p := ⟨w.heap.size, 1, none⟩) BX.out).trans CS.out.2.1, (hV.cell (p := ⟨w.heap.size, 2, none⟩) BX.out).trans CS.out.2.2.1, (hV.cell (p := ⟨w.heap.size, 3, none⟩) BX.out).trans CS.out.2.2.2.1, (hV.cell (p := ⟨w.heap.size, 4, none⟩) BX.out).trans CS.out.2.2.2.2⟩
  have CELLS := Lib.hid cells
  have hall : e.all = e.sp.size + e.lo.size + e.tx.size + atSum e.ats + e.n := rfl
  have htx : e.tx.size ≤ 1048576 := by omega
  have hlo : e.lo.size ≤ 1048576 := by omega
  have mem : ∀ (k : Nat) (x : At), e.ats[k]? = some x → x.va.size ≤ 1048576 := fun k x hx => by
    have h1 := atSum_mem hx
    have h2 : x.size = x.sp.size + x.lo.size + x.va.size := rfl
    omega
  have MEM := Lib.hid mem
  have hn : e.n ≤ 9223372036854775807 := Nat.le_trans hok.2.1 hok.2.2
  clear hok hB0 cells mem hall
  have hK : (e.k < 1) ∨ (¬ e.k < 1 ∧ 5 < e.k) ∨
      (¬ e.k < 1 ∧ ¬ 5 < e.k ∧ (e.k != 1) = false ∧ e.k < 3 ∧ (e.k == 3) = false ∧ (e.k == 5) = false ∧ (e.k == 4) = false) ∨
      (¬ e.k < 1 ∧ ¬ 5 < e.k ∧ (e.k != 1) = true ∧ e.k < 3 ∧ (e.k == 3) = false ∧ (e.k == 5) = false ∧ (e.k == 4) = false) ∨
      (¬ e.k < 1 ∧ ¬ 5 < e.k ∧ (e.k != 1) = true ∧ ¬ e.k < 3 ∧ (e.k == 3) = true ∧ (e.k == 5) = false ∧ (e.k == 4) = false) ∨
      (¬ e.k < 1 ∧ ¬ 5 < e.k ∧ (e.k != 1) = true ∧ ¬ e.k < 3 ∧ (e.k == 3) = false ∧ (e.k == 5) = false ∧ (e.k == 4) = true) ∨
      (¬ e.k < 1 ∧ ¬ 5 < e.k ∧ (e.k != 1) = true ∧ ¬ e.k < 3 ∧ (e.k == 3) = false ∧ (e.k == 5) = true ∧ (e.k == 4) = false) := by
    rcases (show e.k < 1 ∨ 5 < e.k ∨ e.k = 1 ∨ e.k = 2 ∨ e.k = 3 ∨ e.k = 4 ∨ e.k = 5 by omega) with h | h | h | h | h | h | h
    · exact .inl h
    · exact .inr (.inl ⟨by omega, h⟩)
    all_goals (rw [h]; decide)
  rcases hK with q0 | ⟨q0, q1⟩ | ⟨q0, q1, q2, q3, q4, q5, q6⟩ | ⟨q0, q1, q2, q3, q4, q5, q6⟩ | ⟨q0, q1, q2, q3, q4, q5, q6⟩ | ⟨q0, q1, q2, q3, q4, q5, q6⟩ | ⟨q0, q1, q2, q3, q4, q5, q6⟩
  all_goals
    go_enter Try.func25, Try.ntmps25
    go_wp2_with fail
  all_goals first
    | (go_ret; exact ⟨_, rfl, B0.out⟩)
    | (go_at_call 35
       refine (names_any e _ OK.out hs).mono ?_
       rintro _ w1 ⟨A1, cc1, l, rfl, hll, hl1, hl2, hN, hSm, hB1⟩
       have N := Lib.hid hN
       have SM := Lib.hid hSm
       have HB1 := Lib.hid hB1
       clear hN hSm hB1
       go_wp2_with fail
       go_loopw [4] (fun i wr => ∃ (k : Nat), k ≤ l.length ∧ i = .int .i64 k ∧ Hid (Below w1.heap.size w1 wr)) (fun i _ => l.length - (intOf i).toNat)
       case atStart => exact ⟨0, by omega, rfl, Below.refl _ _⟩
       case round =>
         obtain ⟨k, hk, rfl, HB⟩ := hrel
         by_cases hlt : k < l.length
         · obtain ⟨a, p, hA, hx, hb, g0, g1⟩ := (N.out.below HB.out).2 k hlt
           subst hA
           have hp := SM.out p (List.mem_of_getElem? hx)
           have b0 : (0 : Int) ≤ (k : Int) := by omega
           have b1 : (k : Int) < (l.length : Int) := by omega
           have RA := Lib.hid (ris_text true p.2 wr (by omega))
           clear hx hb
           go_wp2_with fail
           refine (RA.out).mono ?_
           rintro _ w2 ⟨rfl, hB9⟩
           have HC := Lib.hid (HB.out.trans (hB9.mono HB.out.size))
           clear hB9 RA
           generalize isN (bsOf p.2) true = b
           cases b with
           | true =>
             go_wp2
             go_roundw
             case rel => exact ⟨k + 1, by omega, by go_num, HC⟩
             case measure => simp [intOf]; omega
           | false =>
             go_wp2
             go_ret
             exact ⟨_, rfl, B0.out.trans ((HB1.out.trans (HC.out.mono HB1.out.size)).mono hsz0)⟩
         · obtain rfl : k = l.length := by omega
           have D := Lib.hid (HB1.out.trans (HB.out.mono HB1.out.size))
           obtain ⟨k0, k1, k2, k3, k4⟩ := CELLS.out wr D.out
           have TX := Lib.hid (ctext_any e wr (OK.out.below D.out) hs)
           go_wp2_with fail
           refine TX.out.mono ?_
           rintro _ w2 ⟨b, rfl, hB9⟩
           have HC := Lib.hid (HB.out.trans (hB9.mono HB.out.size))
           have D2 := Lib.hid (HB1.out.trans (HC.out.mono HB1.out.size))
           clear hB9 TX HB D k0 k1 k2 k3 k4
           obtain ⟨k0, k1, k2, k3, k4⟩ := CELLS.out w2 D2.out
           clear k0 k1 k2 k4
           cases b with
           | true =>
             go_wp2
             go_ret
             exact ⟨_, rfl, B0.out.trans (D2.out.mono hsz0)⟩
           | false =>
             have N2 := Lib.hid (N.out.below HC.out)
             have AT2 := Lib.hid (OK.out.1.below D2.out)
             clear HC
             go_wp2_with fail
             go_loopw [5] (fun i wr => ∃ (k d : Nat), k ≤ l.length ∧ i = .int .i64 k ∧ wr = w2.drewN d) (fun i _ => l.length - (intOf i).toNat)
             case atStart => exact ⟨0, 0, by omega, rfl, rfl⟩
             case round =>
               obtain ⟨k, d, hk, rfl, rfl⟩ := hrel
               by_cases hlt : k < l.length
               · obtain ⟨a, p, hA, hx, hb, g0, g1⟩ := N2.out.2 k hlt
                 subst hA
                 have hp := SM.out p (List.mem_of_getElem? hx)
                 have b0 : (0 : Int) ≤ (k : Int) := by omega
                 have b1 : (k : Int) < (l.length : Int) := by omega
                 clear hx hb
                 by_cases hm : 1024 < p.2.size
                 · have b2 : (1024 : Int) < (p.2.size : Int) := by omega
                   go_wp2
                   go_ret
                   exact ⟨_, rfl, B0.out.trans ((D2.out.trans (below_drewN _ _ _)).mono hsz0)⟩
                 · have b2 : ¬ (1024 : Int) < (p.2.size : Int) := by omega
                   go_wp2
                   go_roundw
                   case rel => exact ⟨k + 1, _, by omega, by go_num, rfl⟩
                   case measure => simp [intOf]; omega
               · obtain rfl : k = l.length := by omega
                 go_wp2_with fail
                 go_loopw [6] (fun i wr => ∃ (k d : Nat), k ≤ l.length ∧ i = .int .i64 k ∧ wr = w2.drewN d) (fun i _ => l.length - (intOf i).toNat)
                 case atStart => exact ⟨0, _, by omega, rfl, rfl⟩
                 case round =>
                   obtain ⟨k, d, hk, rfl, rfl⟩ := hrel
                   by_cases hlt : k < l.length
                   · obtain ⟨a, p, hA, hx, hb, g0, g1⟩ := N2.out.2 k hlt
                     subst hA
                     have b0 : (0 : Int) ≤ (k : Int) := by omega
                     have b1 : (k : Int) < (l.length : Int) := by omega
                     clear hx hb
                     go_wp2_with fail
                     all_goals first
                       | (go_ret; exact ⟨_, rfl, B0.out.trans ((D2.out.trans (below_drewN _ _ _)).mono hsz0)⟩)
                       | exact ⟨⟨k + 1, d, by omega, by go_num, rfl⟩, by simp [intOf]; omega⟩
                   · obtain rfl : k = l.length := by omega
                     go_wp2_with fail
                     go_loopw [7] (fun i wr => ∃ (k d : Nat), k ≤ e.n ∧ i = .int .i64 k ∧ wr = w2.drewN d) (fun i _ => e.n - (intOf i).toNat)
                     case atStart => exact ⟨0, _, by omega, rfl, rfl⟩
                     case round =>
                       obtain ⟨k, d, hk, rfl, rfl⟩ := hrel
                       by_cases hlt : k < e.n
                       · obtain ⟨a, x, hA, hx, hxb, g0, g1, g2⟩ := AT2.out.2 k hlt
                         have b0 : (0 : Int) ≤ (k : Int) := by omega
                         have b1 : (k : Int) < (e.n : Int) := by omega
                         rw [hA] at k3
                         have HA := Lib.hid hA
                         clear hx hxb hA
                         go_wp2_with fail
                         all_goals first
                           | (go_ret; exact ⟨_, rfl, B0.out.trans ((D2.out.trans (below_drewN _ _ _)).mono hsz0)⟩)
                           | (exfalso; omega)
                           | (go_loopw [8] (fun i wr => ∃ (t d : Nat), t ≤ k ∧ i = .int .i64 t ∧ wr = w2.drewN d) (fun i _ => k - (intOf i).toNat)
                              case atStart => exact ⟨0, _, by omega, rfl, rfl⟩
                              case round =>
                                obtain ⟨t, d, ht, rfl, rfl⟩ := hrel
                                by_cases hlt2 : t < k
                                · obtain ⟨a', y, hA', hy, hyb, i0, i1, i2⟩ := AT2.out.2 t (by omega)
                                  obtain rfl : a = a' := by have h := HA.out; rw [hA'] at h; cases h; rfl
                                  have b2 : (0 : Int) ≤ (t : Int) := by omega
                                  have b3 : (t : Int) < (e.n : Int) := by omega
                                  have b4 : (t : Int) < (k : Int) := by omega
                                  clear hy hyb hA'
                                  by_cases hq : y.sp = x.sp ∧ y.lo = x.lo
                                  · have t1 := fun w' => (nameEql y.sp y.lo x.sp x.lo w').trans (by rw [decide_eq_true hq])
                                    clear hq
                                    go_wp2_with fail
                                    go_quiet (fail)
                                    go_wp2
                                    go_ret
                                    exact ⟨_, rfl, B0.out.trans (((D2.out.trans (below_drewN _ _ _)).trans (below_drewN _ _ _)).mono hsz0)⟩
                                  · have t1 := fun w' => (nameEql y.sp y.lo x.sp x.lo w').trans (by rw [decide_eq_false hq])
                                    clear hq
                                    go_wp2_with fail
                                    go_quiet (fail)
                                    go_wp2
                                    go_roundw
                                    case rel => exact ⟨t + 1, _, by omega, by go_num, rfl⟩
                                    case measure => simp [intOf]; omega
                                · obtain rfl : t = k := by omega
                                  go_wp2
                                  go_roundw
                                  case rel => exact ⟨t + 1, _, by omega, by go_num, rfl⟩
                                  case measure => simp [intOf]; omega)
                       · obtain rfl : k = e.n := by omega
                         go_wp2
                         go_ret
                         exact ⟨_, rfl, B0.out.trans ((D2.out.trans (below_drewN _ _ _)).mono hsz0)⟩)
end Go.Proofs.Ytdhgkbghlkhfeaa
