/- The contracts of diff.Parts and of narthexref42.Parts: which parts of two events are not the same. Conditions: none. -/
import Derived.Test.YtdhgkbghlkhfeaaEvSame
import Derived.LoopN
namespace Go.Proofs.Ytdhgkbghlkhfeaa
open Go.RowKit
theorem AtsAt.drewN {w : World} {A : Option Addr} {n : Nat} {l : List At} (h : AtsAt w A n l) (d : Nat) : AtsAt (w.drewN d) A n l := h.below (below_drewN _ _ _)
def RetQ (b : Bool) (w : World) (e : Ending) (w' : World) : Prop := e = .returned (.bool b) ∧ ∃ d, w' = w.drewN d
theorem quietB {P : Program} {f : FuncId} {args : Array Value} {w : World} {n : Nat} {b : Bool} (h : Calls P f args (w.drewN n) (RetQ b (w.drewN n))) :
    Calls P f args (w.drewN n) fun e w'' => e = .returned (.bool b) ∧ ∃ m, w'' = w.drewN m := Calls.quiet_of h
set_option maxHeartbeats 2000000 in
theorem equalAts_any (A : Option Addr) (n c : Nat) (l : List At) (A' : Option Addr) (n' c' : Nat) (m : List At) (w : World) (hl : AtsAt w A n l) (hm : AtsAt w A' n' m) (hn : n ≤ 9223372036854775807) :
    Calls Try.prog 31 #[.slice A n c, .slice A' n' c'] w (RetQ (decide (l = m)) w) := by
  have L := Lib.hid hl
  have M := Lib.hid hm
  clear hl hm
  by_cases hne : n = n'
  · subst hne
    go_enter Try.func31, Try.ntmps31
    go_wp2
    go_loopw [13] (fun i wr => ∃ (k d : Nat), k ≤ n ∧ i = .int .i64 k ∧ Hid (l.take k = m.take k) ∧ wr = w.drewN d) (fun i _ => n - (intOf i).toNat)
    case atStart => exact ⟨0, 0, by omega, rfl, rfl, rfl⟩
    case round =>
      obtain ⟨k, d, hk, rfl, HT, rfl⟩ := hrel
      by_cases hlt : k < n
      · obtain ⟨a, x, rfl, hx, _, g0, g1, g2⟩ := L.out.2 k hlt
        obtain ⟨b, y, rfl, hy, _, i0, i1, i2⟩ := M.out.2 k hlt
        have b0 : (0 : Int) ≤ (k : Int) := by omega
        have b1 : (k : Int) < (n : Int) := by omega
        have X := Lib.hid hx
        have Y := Lib.hid hy
        clear hx hy
        by_cases hxy : x = y
        · have t4 := fun w' => (attrNeq x y w').trans (by rw [decide_eq_true hxy])
          have XY := Lib.hid hxy
          clear hxy
          go_wp2_with fail
          go_quiet (fail)
          go_wp2
          go_roundw
          case rel => exact ⟨k + 1, _, by omega, by go_num, takes_eq HT.out X.out (by rw [XY.out]; exact Y.out), rfl⟩
          case measure => simp [intOf]; omega
        · have t4 := fun w' => (attrNeq x y w').trans (by rw [decide_eq_false hxy])
          have XY := Lib.hid hxy
          clear hxy
          go_wp2_with fail
          go_quiet (fail)
          go_wp2
          go_ret
          have G : decide (l = m) = false := by
            refine decide_eq_false fun h => XY.out ?_
            have h1 := X.out
            rw [h, Y.out] at h1
            exact (Option.some.inj h1).symm
          rw [G]
          exact ⟨rfl, d + nq, by simp⟩
      · obtain rfl : k = n := by omega
        go_wp2
        go_ret
        have h := HT.out
        rw [← L.out.1, List.take_length, L.out.1, ← M.out.1, List.take_length] at h
        rw [decide_eq_true h]
        exact ⟨rfl, _, rfl⟩
  · have t0 : ((n : Int) != n') = true := by simp; omega
    have G : decide (l = m) = false := decide_eq_false fun h => hne (by rw [← L.out.1, ← M.out.1, h])
    rw [G]
    go_enter Try.func31, Try.ntmps31
    go_wp2
    go_ret
    exact ⟨rfl, 0, rfl⟩
/-- Which parts are not the same: 1, 2, 4, 8. -/
def partsB (b0 b1 b2 b3 : Bool) : Int := (if b0 then 0 else 1) + (if b1 then 0 else 2) + (if b2 then 0 else 4) + (if b3 then 0 else 8)
def partsOf (e f : Ev) : Int := partsB (decide (e.k = f.k)) (decide (e.sp = f.sp ∧ e.lo = f.lo)) (decide (e.ats = f.ats)) (decide (e.tx = f.tx))
theorem partsOf_zero (e f : Ev) : partsOf e f = 0 ↔ sameEv e f = true := by
  unfold partsOf partsB sameEv
  by_cases h0 : e.k = f.k <;> by_cases h1 : (e.sp = f.sp ∧ e.lo = f.lo) <;> by_cases h2 : e.ats = f.ats <;> by_cases h3 : e.tx = f.tx <;> simp [h0, h1, h2, h3]
theorem index4_0 (a b c d : Bool) (w : World) : (Instr.index 59 (.agg #[.bool a, .bool b, .bool c, .bool d]) (.int .i64 0)).run Try.prog w = .ok (.bool a) w := by kernel_rfl
theorem index4_1 (a b c d : Bool) (w : World) : (Instr.index 59 (.agg #[.bool a, .bool b, .bool c, .bool d]) (.int .i64 1)).run Try.prog w = .ok (.bool b) w := by kernel_rfl
theorem index4_2 (a b c d : Bool) (w : World) : (Instr.index 59 (.agg #[.bool a, .bool b, .bool c, .bool d]) (.int .i64 2)).run Try.prog w = .ok (.bool c) w := by kernel_rfl
theorem index4_3 (a b c d : Bool) (w : World) : (Instr.index 59 (.agg #[.bool a, .bool b, .bool c, .bool d]) (.int .i64 3)).run Try.prog w = .ok (.bool d) w := by kernel_rfl
set_option maxRecDepth 100000 in
set_option maxHeartbeats 4000000 in
theorem parts_any (e f : Ev) (w : World) (he : EvOk w e) (hf : EvOk w f) :
    Calls Try.prog 15 #[.agg #[.int .i64 e.k, .string e.sp, .string e.lo, .slice e.A e.n e.c, .string e.tx], .agg #[.int .i64 f.k, .string f.sp, .string f.lo, .slice f.A f.n f.c, .string f.tx]] w (BelI (partsOf e f) w) := by
  obtain ⟨W, hW, hB0, ⟨c0, c1, c2, c3, c4⟩, d0, d1, d2, d3, d4⟩ := evBox2 w e f 31
  have E := Lib.hid (he.1.below hB0)
  have F := Lib.hid (hf.1.below hB0)
  have B := Lib.hid hB0
  have hn9 : e.n ≤ 9223372036854775807 := Nat.le_trans he.2.1 he.2.2
  have t1 := fun w' => nameEql e.sp e.lo f.sp f.lo w'
  have t3 : (e.tx.toList == f.tx.toList) = decide (e.tx = f.tx) := by
    by_cases h : e.tx = f.tx
    · rw [h]; simp
    · rw [toL_no h]; simp [h]
  have x0 := index4_0
  have x1 := index4_1
  have x2 := index4_2
  have x3 := index4_3
  have t0 : (e.k == f.k) = decide (e.k = f.k) := by simp [BEq.beq]
  unfold partsOf
  generalize decide (e.k = f.k) = b0 at *
  generalize decide (e.sp = f.sp ∧ e.lo = f.lo) = b1 at *
  generalize decide (e.tx = f.tx) = b3 at *
  generalize hb2 : decide (e.ats = f.ats) = b2 at *
  have CQ := Lib.hid (show ∀ d, Calls Try.prog 31 #[.slice e.A e.n e.c, .slice f.A f.n f.c] (W.drewN d) (RetQ b2 (W.drewN d)) by intro d; rw [← hb2]; exact equalAts_any _ _ _ e.ats _ _ _ f.ats _ (E.out.drewN _) (F.out.drewN _) hn9)
  clear hb2 hB0 he hf
  go_enter Try.func15, Try.ntmps15
  go_wp2_with fail
  go_quiet (first | (go_at_call 31; exact quietB (CQ.out _)))
  have HB := Lib.hid (B.out.trans (below_drewN w.heap.size W nq))
  generalize W.drewN nq = V at *
  clear hW c0 c1 c2 c3 c4 d0 d1 d2 d3 d4 E F B hn9 t0 t1 t3 CQ
  cases b0 <;> cases b1 <;> cases b2 <;> cases b3
  all_goals
    go_wp2
    refine wp_loop_rounds 5 ?_
    rw [rounds_succ]; go_wp2
    rw [rounds_succ]; go_wp2
    rw [rounds_succ]; go_wp2
    rw [rounds_succ]; go_wp2
    rw [rounds_succ]; go_wp2
    go_ret
    exact ⟨rfl, HB.out⟩
theorem ats_take {l m : List At} {n n' k : Nat} (hl : l.length = n) (hm : m.length = n') (hn : n = n') (hk : k = n) (h : l.take k = m.take k) : l = m := by
  subst hk hn
  rw [← hl, List.take_length, hl, ← hm, List.take_length] at h
  exact h
set_option maxRecDepth 100000 in
set_option maxHeartbeats 8000000 in
theorem rparts_any (e f : Ev) (w : World) (he : EvOk w e) (hf : EvOk w f) :
    Calls Try.prog 16 #[.agg #[.int .i64 e.k, .string e.sp, .string e.lo, .slice e.A e.n e.c, .string e.tx], .agg #[.int .i64 f.k, .string f.sp, .string f.lo, .slice f.A f.n f.c, .string f.tx]] w (BelI (partsOf e f) w) := by
  obtain ⟨W, hW, hB0, ⟨c0, c1, c2, c3, c4⟩, d0, d1, d2, d3, d4⟩ := evBox2 w e f 31
  have E := Lib.hid (he.1.below hB0)
  have F := Lib.hid (hf.1.below hB0)
  have B := Lib.hid hB0
  have hn9 : e.n ≤ 9223372036854775807 := Nat.le_trans he.2.1 he.2.2
  have t1 := fun w' => nameNeq e.sp e.lo f.sp f.lo w'
  have t0 : (e.k != f.k) = !decide (e.k = f.k) := by
    by_cases h : e.k = f.k <;> simp [h]
  unfold partsOf
  generalize decide (e.k = f.k) = b0 at *
  generalize decide (e.sp = f.sp ∧ e.lo = f.lo) = b1 at *
  generalize hb3 : decide (e.tx = f.tx) = b3 at *
  have T3 := Lib.hid hb3
  clear hb3
  have hn : ((e.n : Int) == f.n) = decide (e.n = f.n) := by
    by_cases h : e.n = f.n
    · simp [h]
    · rw [decide_eq_false h]; simp; omega
  clear hB0 he hf
  generalize hs0 : decide (e.n = f.n) = sm0 at *
  have S0 := Lib.hid hs0
  clear hs0
  cases b0 <;> cases b1
  all_goals
    go_enter Try.func16, Try.ntmps16
    go_wp2
    clear hW
    go_loopw [6, 7] (fun s i wr => ∃ (k d : Nat) (sm : Bool), k ≤ e.n ∧ s = .bool sm ∧ i = .int .i64 k ∧ Hid ((sm = true → e.n = f.n ∧ e.ats.take k = f.ats.take k) ∧ (sm = false → ¬ e.ats = f.ats)) ∧ wr = W.drewN d) (fun _ i _ => e.n - (intOf i).toNat)
    case atStart =>
      refine ⟨0, 0, sm0, by omega, rfl, rfl, ⟨fun h => ⟨?_, rfl⟩, fun h h2 => ?_⟩, rfl⟩
      · have := S0.out; rw [h] at this; exact of_decide_eq_true this
      · have := S0.out; rw [h] at this; exact of_decide_eq_false this (by rw [← E.out.1, ← F.out.1, h2])
    case round =>
      obtain ⟨k, d, sm, hk, rfl, rfl, HS, rfl⟩ := hrel
      cases sm with
      | false =>
        have G := Lib.hid (decide_eq_false (HS.out.2 rfl))
        cases b3 with
        | false =>
          have t3 := toL_no (of_decide_eq_false T3.out)
          go_wp2
          go_ret
          rw [G.out]
          exact ⟨rfl, B.out.trans (below_drewN _ _ _)⟩
        | true =>
          rw [← of_decide_eq_true T3.out] at d4
          go_wp2
          go_ret
          rw [G.out]
          exact ⟨rfl, B.out.trans (below_drewN _ _ _)⟩
      | true =>
        by_cases hlt : k < e.n
        · obtain ⟨a, x, hA, hx, _, g0, g1, g2⟩ := E.out.2 k hlt
          obtain ⟨b, y, hA', hy, _, i0, i1, i2⟩ := F.out.2 k (by rw [← (HS.out.1 rfl).1]; exact hlt)
          have bb0 : (0 : Int) ≤ (k : Int) := by omega
          have bb1 : (k : Int) < (e.n : Int) := by omega
          have bb2 : (k : Int) < (f.n : Int) := by have := (HS.out.1 rfl).1; omega
          have X := Lib.hid hx
          have Y := Lib.hid hy
          have NN := Lib.hid (HS.out.1 rfl).1
          have TT := Lib.hid (HS.out.1 rfl).2
          clear hx hy HS
          rw [hA] at c3
          rw [hA'] at d3
          clear hA hA'
          have t4 := fun w' => attrEql x y w'
          generalize hxy : decide (x = y) = q at *
          have XY := Lib.hid hxy
          clear hxy
          go_wp2_with fail
          go_quiet (fail)
          go_wp2
          go_roundw
          case rel =>
            refine ⟨k + 1, _, q, by omega, rfl, by go_num, ⟨fun h => ⟨NN.out, ?_⟩, fun h h2 => ?_⟩, rfl⟩
            · have h2 := XY.out; rw [h] at h2
              exact takes_eq TT.out X.out (by rw [of_decide_eq_true h2]; exact Y.out)
            · have h3 := XY.out; rw [h] at h3
              refine of_decide_eq_false h3 ?_
              have h1 := X.out
              rw [h2, Y.out] at h1
              exact (Option.some.inj h1).symm
          case measure => simp [intOf]; omega
        · have G := Lib.hid (decide_eq_true (ats_take E.out.1 F.out.1 (HS.out.1 rfl).1 (by omega) (HS.out.1 rfl).2))
          cases b3 with
          | false =>
            have t3 := toL_no (of_decide_eq_false T3.out)
            go_wp2
            go_ret
            rw [G.out]
            exact ⟨rfl, B.out.trans (below_drewN _ _ _)⟩
          | true =>
            rw [← of_decide_eq_true T3.out] at d4
            go_wp2
            go_ret
            rw [G.out]
            exact ⟨rfl, B.out.trans (below_drewN _ _ _)⟩
end Go.Proofs.Ytdhgkbghlkhfeaa
