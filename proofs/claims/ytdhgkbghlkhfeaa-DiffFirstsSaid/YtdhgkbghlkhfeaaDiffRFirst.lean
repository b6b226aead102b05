/- The contract of narthexref42.First. Conditions: none. -/
import Derived.Test.YtdhgkbghlkhfeaaDiffFirst
namespace Go.Proofs.Ytdhgkbghlkhfeaa
open Go.RowKit
set_option maxHeartbeats 4000000 in
theorem rfirst_any (A : Option Addr) (n c : Nat) (l : List Ev) (A' : Option Addr) (n' c' : Nat) (m : List Ev) (w : World) (hl : EvsAt w A n l) (hm : EvsAt w A' n' m) (hn : n ≤ 9223372036854775807) (hn' : n' ≤ 9223372036854775807) :
    Calls Try.prog 13 #[.slice A n c, .slice A' n' c'] w (TellFirst (firstOf l m) w) := by
  have L := Lib.hid hl
  have M := Lib.hid hm
  have LN := Lib.hid hl.1
  have MN := Lib.hid hm.1
  clear hl hm
  go_enter Try.func13, Try.ntmps13
  go_wp2
  go_loopw [6] (fun i wr => ∃ (k : Nat), k ≤ n ∧ k ≤ n' ∧ i = .int .i64 k ∧ Hid (∀ (i : Nat) (e f : Ev), i < k → l[i]? = some e → m[i]? = some f → sameEv e f = true) ∧ Hid (Below w.heap.size w wr)) (fun i _ => n - (intOf i).toNat)
  case atStart => exact ⟨0, by omega, by omega, rfl, (fun i e f hi => by omega), Below.refl _ _⟩
  case round =>
    obtain ⟨k, hk, hk', rfl, HS, HB⟩ := hrel
    by_cases hlt : k < n
    · by_cases hlt2 : k < n'
      · have b0 : (0 : Int) ≤ (k : Int) := by omega
        obtain ⟨a, e, rfl, hx, he, hok⟩ := L.out.2 k hlt
        obtain ⟨b, f, rfl, hy, hf, hok2⟩ := M.out.2 k hlt2
        have b1 : (k : Int) < (n : Int) := by omega
        have b2 : (k : Int) < (n' : Int) := by omega
        have E := Lib.hid he
        have F := Lib.hid hf
        have OK := Lib.hid hok
        have OK2 := Lib.hid hok2
        have X := Lib.hid hx
        have Y := Lib.hid hy
        have B0 := E.out.1
        have B1 := F.out.1
        clear hx hy he hf hok hok2
        obtain ⟨_, g0, g1, g2, g3, g4⟩ := E.out.below (HB.out.trans (below_drew _ wr)) B0
        obtain ⟨_, p0, p1, p2, p3, p4⟩ := F.out.below (HB.out.trans (below_drew _ wr)) B1
        have cc1 : ¬ n ≤ k := by omega
        have cc2 : ¬ n' ≤ k := by omega
        obtain ⟨q, p⟩ : ∃ q, (partsOf e f != 0) = q := ⟨_, rfl⟩
        have P := Lib.hid (show sameEv e f = !q by rw [← p, parts_ne_zero]; simp)
        go_wp2_with fail
        go_region_held3 (fun w' => w'.cell? (a.add (k * 5)) = some (.int .i64 e.k) ∧ w'.cell? ⟨(a.add (k * 5)).block, (a.add (k * 5)).off + 1, none⟩ = some (.string e.sp) ∧ w'.cell? ⟨(a.add (k * 5)).block, (a.add (k * 5)).off + 2, none⟩ = some (.string e.lo) ∧ w'.cell? ⟨(a.add (k * 5)).block, (a.add (k * 5)).off + 3, none⟩ = some (.slice e.A e.n e.c) ∧ w'.cell? ⟨(a.add (k * 5)).block, (a.add (k * 5)).off + 4, none⟩ = some (.string e.tx) ∧ w'.cell? (b.add (k * 5)) = some (.int .i64 f.k) ∧ w'.cell? ⟨(b.add (k * 5)).block, (b.add (k * 5)).off + 1, none⟩ = some (.string f.sp) ∧ w'.cell? ⟨(b.add (k * 5)).block, (b.add (k * 5)).off + 2, none⟩ = some (.string f.lo) ∧ w'.cell? ⟨(b.add (k * 5)).block, (b.add (k * 5)).off + 3, none⟩ = some (.slice f.A f.n f.c) ∧ w'.cell? ⟨(b.add (k * 5)).block, (b.add (k * 5)).off + 4, none⟩ = some (.string f.tx))
          (first | exact ⟨g0, g1, g2, g3, g4, p0, p1, p2, p3, p4⟩ | exact ⟨i0, i1, i2, i3, i4, q0, q1, q2, q3, q4⟩)
          (first | (go_at_call 16; refine (rparts_any e f _ (OK.out.below (HB.out.trans (below_drew _ wr))) (OK2.out.below (HB.out.trans (below_drew _ wr)))).mono ?_; rintro x w2 ⟨rfl, hB1⟩; have hB2 := HB.out.trans ((below_drew _ wr).trans (hB1.mono HB.out.size)); obtain ⟨_, i0, i1, i2, i3, i4⟩ := E.out.below hB2 B0; obtain ⟨_, q0, q1, q2, q3, q4⟩ := F.out.below hB2 B1))
        cases q with
        | false =>
          go_wp2
          go_roundw
          case rel => exact ⟨k + 1, by omega, by omega, by go_num, same_step HS.out X.out Y.out P.out, hB2⟩
          case measure => simp [intOf]; omega
        | true =>
          go_wp2
          go_ret2
          rw [firstOf_no HS.out X.out Y.out P.out]
          exact ⟨rfl, hB2⟩
      · obtain rfl : k = n' := by omega
        have b2 : (k : Int) < (n : Int) := by omega
        have cc1 : ¬ n ≤ k := by omega
        have hne : ¬ l.length = m.length := by rw [LN.out, MN.out]; omega
        go_wp2_with fail
        refine wp_region_held_drew (S := fun _ => True) (by kernel_rfl) trivial (fun hHeld => ?_)
        refine wpAnyH_take (i := 0) (oi := ({ dst := some 19, op := Op.move (Operand.tmp 6), type := 3, pos := "ref.go:41", after := #[], guard := none } : Oper)) (v := ?_) rfl (by kernel_rfl) (by kernel_rfl) (by kernel_rfl) (fun _ _ _ h => h) (Or.inl ⟨by rfl, ?_⟩) (by assumption) ?_
        rotate_left 1
        · intro w hSw; go_simp; try with_reducible rfl
        (try simp only [Act.put, List.setIfInBounds_toArray, List.set_cons_zero, List.set_cons_succ])
        refine wpAnyH_take (i := 1) (oi := ({ dst := some 20, op := Op.move (Operand.tmp 0), type := 22, pos := "ref.go:41", after := #[], guard := none } : Oper)) (v := ?_) rfl (by kernel_rfl) (by kernel_rfl) (by kernel_rfl) (fun _ _ _ h => h) (Or.inl ⟨by rfl, ?_⟩) (by assumption) ?_
        rotate_left 1
        · intro w hSw; go_simp; try with_reducible rfl
        (try simp only [Act.put, List.setIfInBounds_toArray, List.set_cons_zero, List.set_cons_succ])
        refine wpAnyH_take (i := 2) (oi := ({ dst := some 21, op := Op.call { callee := Callee.builtin Builtin.len, args := #[Operand.tmp 20], argTypes := #[22] }, type := 3, pos := "ref.go:41", after := #[{ on := 1, ground := Ground.data }], guard := none } : Oper)) (v := ?_) rfl (by kernel_rfl) (by kernel_rfl) (by kernel_rfl) (fun _ _ _ h => h) (Or.inl ⟨by rfl, ?_⟩) (by assumption) ?_
        rotate_left 1
        · intro w hSw; go_simp; try with_reducible rfl
        (try simp only [Act.put, List.setIfInBounds_toArray, List.set_cons_zero, List.set_cons_succ])
        refine wpAnyH_take (i := 3) (oi := ({ dst := some 22, op := Op.binOp BinOp.geq 3 (Operand.tmp 19) (Operand.tmp 21) 3, type := 4, pos := "ref.go:41", after := #[{ on := 0, ground := Ground.data }, { on := 2, ground := Ground.data }], guard := none } : Oper)) (v := ?_) rfl (by kernel_rfl) (by kernel_rfl) (by kernel_rfl) (fun _ _ _ h => h) (Or.inl ⟨by rfl, ?_⟩) (by assumption) ?_
        rotate_left 1
        · intro w hSw; go_simp; try with_reducible rfl
        (try simp only [Act.put, List.setIfInBounds_toArray, List.set_cons_zero, List.set_cons_succ])
        refine wpAnyH_take (i := 4) (oi := ({ dst := some 23, op := Op.move (Operand.tmp 22), type := 4, pos := "ref.go:41", after := #[{ on := 3, ground := Ground.data }], guard := none } : Oper)) (v := ?_) rfl (by kernel_rfl) (by kernel_rfl) (by kernel_rfl) (fun _ _ _ h => h) (Or.inl ⟨by rfl, ?_⟩) (by assumption) ?_
        rotate_left 1
        · intro w hSw; go_simp; try with_reducible rfl
        (try simp only [Act.put, List.setIfInBounds_toArray, List.set_cons_zero, List.set_cons_succ])
        refine wpAnyH_take (i := 5) (oi := ({ dst := some 24, op := Op.move (Operand.tmp 6), type := 3, pos := "ref.go:41", after := #[{ on := 4, ground := Ground.guard }], guard := some (4, false) } : Oper)) (v := ?_) rfl (by kernel_rfl) (by kernel_rfl) (by kernel_rfl) (fun _ _ _ h => h) (Or.inl ⟨by rfl, ?_⟩) (by assumption) ?_
        rotate_left 1
        · intro w hSw; go_simp; try with_reducible rfl
        (try simp only [Act.put, List.setIfInBounds_toArray, List.set_cons_zero, List.set_cons_succ])
        refine wpAnyH_take (i := 6) (oi := ({ dst := some 25, op := Op.move (Operand.tmp 1), type := 22, pos := "ref.go:41", after := #[{ on := 4, ground := Ground.guard }], guard := some (4, false) } : Oper)) (v := ?_) rfl (by kernel_rfl) (by kernel_rfl) (by kernel_rfl) (fun _ _ _ h => h) (Or.inl ⟨by rfl, ?_⟩) (by assumption) ?_
        rotate_left 1
        · intro w hSw; go_simp; try with_reducible rfl
        (try simp only [Act.put, List.setIfInBounds_toArray, List.set_cons_zero, List.set_cons_succ])
        refine wpAnyH_take (i := 7) (oi := ({ dst := some 26, op := Op.call { callee := Callee.builtin Builtin.len, args := #[Operand.tmp 25], argTypes := #[22] }, type := 3, pos := "ref.go:41", after := #[{ on := 6, ground := Ground.data }, { on := 4, ground := Ground.guard }], guard := some (4, false) } : Oper)) (v := ?_) rfl (by kernel_rfl) (by kernel_rfl) (by kernel_rfl) (fun _ _ _ h => h) (Or.inl ⟨by rfl, ?_⟩) (by assumption) ?_
        rotate_left 1
        · intro w hSw; go_simp; try with_reducible rfl
        (try simp only [Act.put, List.setIfInBounds_toArray, List.set_cons_zero, List.set_cons_succ])
        refine wpAnyH_take (i := 8) (oi := ({ dst := some 27, op := Op.binOp BinOp.geq 3 (Operand.tmp 24) (Operand.tmp 26) 3, type := 4, pos := "ref.go:41", after := #[{ on := 5, ground := Ground.data }, { on := 7, ground := Ground.data }, { on := 4, ground := Ground.guard }], guard := some (4, false) } : Oper)) (v := ?_) rfl (by kernel_rfl) (by kernel_rfl) (by kernel_rfl) (fun _ _ _ h => h) (Or.inl ⟨by rfl, ?_⟩) (by assumption) ?_
        rotate_left 1
        · intro w hSw; go_simp; try with_reducible rfl
        (try simp only [Act.put, List.setIfInBounds_toArray, List.set_cons_zero, List.set_cons_succ])
        refine wpAnyH_take (i := 9) (oi := ({ dst := some 28, op := Op.pick (Operand.tmp 23) (Operand.const (Value.bool true)) (Operand.tmp 27), type := 4, pos := "ref.go:41", after := #[{ on := 4, ground := Ground.data }, { on := 8, ground := Ground.data }], guard := none } : Oper)) (v := ?_) rfl (by kernel_rfl) (by kernel_rfl) (by kernel_rfl) (fun _ _ _ h => h) (Or.inl ⟨by rfl, ?_⟩) (by assumption) ?_
        rotate_left 1
        · intro w hSw; go_simp; try with_reducible rfl
        (try simp only [Act.put, List.setIfInBounds_toArray, List.set_cons_zero, List.set_cons_succ])
        refine wpAnyH_take (i := 10) (oi := ({ dst := some 29, op := Op.move (Operand.tmp 28), type := 4, pos := "ref.go:41", after := #[{ on := 9, ground := Ground.data }, { on := 4, ground := Ground.chain }], guard := none } : Oper)) (v := ?_) rfl (by kernel_rfl) (by kernel_rfl) (by kernel_rfl) (fun _ _ _ h => h) (Or.inl ⟨by rfl, ?_⟩) (by assumption) ?_
        rotate_left 1
        · intro w hSw; go_simp; try with_reducible rfl
        (try simp only [Act.put, List.setIfInBounds_toArray, List.set_cons_zero, List.set_cons_succ])
        refine wpAnyH_take (i := 11) (oi := ({ dst := some 30, op := Op.move (Operand.tmp 0), type := 22, pos := "ref.go:41", after := #[{ on := 10, ground := Ground.guard }], guard := some (10, false) } : Oper)) (v := undef) rfl (by kernel_rfl) (by kernel_rfl) (by kernel_rfl) (fun _ _ _ h => h) (Or.inr ⟨by rfl, rfl⟩) (by assumption) ?_
        (try simp only [Act.put, List.setIfInBounds_toArray, List.set_cons_zero, List.set_cons_succ])
        refine wpAnyH_take (i := 12) (oi := ({ dst := some 31, op := Op.move (Operand.tmp 6), type := 3, pos := "ref.go:41", after := #[{ on := 10, ground := Ground.guard }], guard := some (10, false) } : Oper)) (v := undef) rfl (by kernel_rfl) (by kernel_rfl) (by kernel_rfl) (fun _ _ _ h => h) (Or.inr ⟨by rfl, rfl⟩) (by assumption) ?_
        (try simp only [Act.put, List.setIfInBounds_toArray, List.set_cons_zero, List.set_cons_succ])
        refine wpAnyH_take (i := 13) (oi := ({ dst := some 32, op := Op.indexAddr 22 (Operand.tmp 30) (Operand.tmp 31), type := 0, pos := "ref.go:41", after := #[{ on := 11, ground := Ground.data }, { on := 12, ground := Ground.data }, { on := 10, ground := Ground.guard }], guard := some (10, false) } : Oper)) (v := undef) rfl (by kernel_rfl) (by kernel_rfl) (by kernel_rfl) (fun _ _ _ h => h) (Or.inr ⟨by rfl, rfl⟩) (by assumption) ?_
        (try simp only [Act.put, List.setIfInBounds_toArray, List.set_cons_zero, List.set_cons_succ])
        refine wpAnyH_take (i := 14) (oi := ({ dst := some 33, op := Op.load 31 (Operand.tmp 32), type := 31, pos := "ref.go:41", after := #[{ on := 13, ground := Ground.data }, { on := 10, ground := Ground.guard }], guard := some (10, false) } : Oper)) (v := undef) rfl (by kernel_rfl) (by kernel_rfl) (by kernel_rfl) (fun _ _ _ h => h) (Or.inr ⟨by rfl, rfl⟩) (by assumption) ?_
        (try simp only [Act.put, List.setIfInBounds_toArray, List.set_cons_zero, List.set_cons_succ])
        refine wpAnyH_take (i := 15) (oi := ({ dst := some 34, op := Op.move (Operand.tmp 1), type := 22, pos := "ref.go:41", after := #[{ on := 10, ground := Ground.guard }], guard := some (10, false) } : Oper)) (v := undef) rfl (by kernel_rfl) (by kernel_rfl) (by kernel_rfl) (fun _ _ _ h => h) (Or.inr ⟨by rfl, rfl⟩) (by assumption) ?_
        (try simp only [Act.put, List.setIfInBounds_toArray, List.set_cons_zero, List.set_cons_succ])
        refine wpAnyH_take (i := 16) (oi := ({ dst := some 35, op := Op.move (Operand.tmp 6), type := 3, pos := "ref.go:41", after := #[{ on := 10, ground := Ground.guard }], guard := some (10, false) } : Oper)) (v := undef) rfl (by kernel_rfl) (by kernel_rfl) (by kernel_rfl) (fun _ _ _ h => h) (Or.inr ⟨by rfl, rfl⟩) (by assumption) ?_
        (try simp only [Act.put, List.setIfInBounds_toArray, List.set_cons_zero, List.set_cons_succ])
        refine wpAnyH_take (i := 17) (oi := ({ dst := some 36, op := Op.indexAddr 22 (Operand.tmp 34) (Operand.tmp 35), type := 0, pos := "ref.go:41", after := #[{ on := 15, ground := Ground.data }, { on := 16, ground := Ground.data }, { on := 10, ground := Ground.guard }], guard := some (10, false) } : Oper)) (v := undef) rfl (by kernel_rfl) (by kernel_rfl) (by kernel_rfl) (fun _ _ _ h => h) (Or.inr ⟨by rfl, rfl⟩) (by assumption) ?_
        (try simp only [Act.put, List.setIfInBounds_toArray, List.set_cons_zero, List.set_cons_succ])
        refine wpAnyH_take (i := 18) (oi := ({ dst := some 37, op := Op.load 31 (Operand.tmp 36), type := 31, pos := "ref.go:41", after := #[{ on := 17, ground := Ground.data }, { on := 10, ground := Ground.guard }], guard := some (10, false) } : Oper)) (v := undef) rfl (by kernel_rfl) (by kernel_rfl) (by kernel_rfl) (fun _ _ _ h => h) (Or.inr ⟨by rfl, rfl⟩) (by assumption) ?_
        (try simp only [Act.put, List.setIfInBounds_toArray, List.set_cons_zero, List.set_cons_succ])
        refine wpAnyH_take (i := 19) (oi := ({ dst := some 38, op := Op.call { callee := Callee.value (Operand.func 16), args := #[Operand.tmp 33, Operand.tmp 37], argTypes := #[31, 31] }, type := 3, pos := "ref.go:41", after := #[{ on := 14, ground := Ground.data }, { on := 18, ground := Ground.data }, { on := 10, ground := Ground.chain }, { on := 10, ground := Ground.guard }], guard := some (10, false) } : Oper)) (v := undef) rfl (by kernel_rfl) (by kernel_rfl) (by kernel_rfl) (fun _ _ _ h => h) (Or.inr ⟨by rfl, rfl⟩) (by assumption) ?_
        (try simp only [Act.put, List.setIfInBounds_toArray, List.set_cons_zero, List.set_cons_succ])
        refine wpAnyH_take (i := 20) (oi := ({ dst := some 39, op := Op.binOp BinOp.neq 3 (Operand.tmp 38) (Operand.const (Value.int IntKind.i64 0)) 3, type := 4, pos := "ref.go:41", after := #[{ on := 19, ground := Ground.data }, { on := 10, ground := Ground.guard }], guard := some (10, false) } : Oper)) (v := undef) rfl (by kernel_rfl) (by kernel_rfl) (by kernel_rfl) (fun _ _ _ h => h) (Or.inr ⟨by rfl, rfl⟩) (by assumption) ?_
        (try simp only [Act.put, List.setIfInBounds_toArray, List.set_cons_zero, List.set_cons_succ])
        refine wpAnyH_take (i := 21) (oi := ({ dst := some 40, op := Op.pick (Operand.tmp 29) (Operand.const (Value.bool true)) (Operand.tmp 39), type := 4, pos := "ref.go:41", after := #[{ on := 10, ground := Ground.data }, { on := 20, ground := Ground.data }], guard := none } : Oper)) (v := ?_) rfl (by kernel_rfl) (by kernel_rfl) (by kernel_rfl) (fun _ _ _ h => h) (Or.inl ⟨by rfl, ?_⟩) (by assumption) ?_
        rotate_left 1
        · intro w hSw; go_simp; try with_reducible rfl
        (try simp only [Act.put, List.setIfInBounds_toArray, List.set_cons_zero, List.set_cons_succ])
        refine wpAnyH_done (by kernel_rfl) ?_ _
        go_wp2
        go_ret2
        rw [firstOf_end HS.out (by rw [LN.out]; omega) (by rw [MN.out]; omega) (by rw [LN.out, MN.out]; omega), decide_eq_false hne]
        exact ⟨rfl, HB.out.trans (below_drew _ _)⟩
    · obtain rfl : k = n := by omega
      by_cases hlt2 : k < n'
      · have b2 : (k : Int) < (n' : Int) := by omega
        have hne : ¬ l.length = m.length := by rw [LN.out, MN.out]; omega
        go_wp2_with fail
        refine wp_region_held_drew (S := fun _ => True) (by kernel_rfl) trivial (fun hHeld => ?_)
        refine wpAnyH_take (i := 0) (oi := ({ dst := some 19, op := Op.move (Operand.tmp 6), type := 3, pos := "ref.go:41", after := #[], guard := none } : Oper)) (v := ?_) rfl (by kernel_rfl) (by kernel_rfl) (by kernel_rfl) (fun _ _ _ h => h) (Or.inl ⟨by rfl, ?_⟩) (by assumption) ?_
        rotate_left 1
        · intro w hSw; go_simp; try with_reducible rfl
        (try simp only [Act.put, List.setIfInBounds_toArray, List.set_cons_zero, List.set_cons_succ])
        refine wpAnyH_take (i := 1) (oi := ({ dst := some 20, op := Op.move (Operand.tmp 0), type := 22, pos := "ref.go:41", after := #[], guard := none } : Oper)) (v := ?_) rfl (by kernel_rfl) (by kernel_rfl) (by kernel_rfl) (fun _ _ _ h => h) (Or.inl ⟨by rfl, ?_⟩) (by assumption) ?_
        rotate_left 1
        · intro w hSw; go_simp; try with_reducible rfl
        (try simp only [Act.put, List.setIfInBounds_toArray, List.set_cons_zero, List.set_cons_succ])
        refine wpAnyH_take (i := 2) (oi := ({ dst := some 21, op := Op.call { callee := Callee.builtin Builtin.len, args := #[Operand.tmp 20], argTypes := #[22] }, type := 3, pos := "ref.go:41", after := #[{ on := 1, ground := Ground.data }], guard := none } : Oper)) (v := ?_) rfl (by kernel_rfl) (by kernel_rfl) (by kernel_rfl) (fun _ _ _ h => h) (Or.inl ⟨by rfl, ?_⟩) (by assumption) ?_
        rotate_left 1
        · intro w hSw; go_simp; try with_reducible rfl
        (try simp only [Act.put, List.setIfInBounds_toArray, List.set_cons_zero, List.set_cons_succ])
        refine wpAnyH_take (i := 3) (oi := ({ dst := some 22, op := Op.binOp BinOp.geq 3 (Operand.tmp 19) (Operand.tmp 21) 3, type := 4, pos := "ref.go:41", after := #[{ on := 0, ground := Ground.data }, { on := 2, ground := Ground.data }], guard := none } : Oper)) (v := ?_) rfl (by kernel_rfl) (by kernel_rfl) (by kernel_rfl) (fun _ _ _ h => h) (Or.inl ⟨by rfl, ?_⟩) (by assumption) ?_
        rotate_left 1
        · intro w hSw; go_simp; try with_reducible rfl
        (try simp only [Act.put, List.setIfInBounds_toArray, List.set_cons_zero, List.set_cons_succ])
        refine wpAnyH_take (i := 4) (oi := ({ dst := some 23, op := Op.move (Operand.tmp 22), type := 4, pos := "ref.go:41", after := #[{ on := 3, ground := Ground.data }], guard := none } : Oper)) (v := ?_) rfl (by kernel_rfl) (by kernel_rfl) (by kernel_rfl) (fun _ _ _ h => h) (Or.inl ⟨by rfl, ?_⟩) (by assumption) ?_
        rotate_left 1
        · intro w hSw; go_simp; try with_reducible rfl
        (try simp only [Act.put, List.setIfInBounds_toArray, List.set_cons_zero, List.set_cons_succ])
        refine wpAnyH_take (i := 5) (oi := ({ dst := some 24, op := Op.move (Operand.tmp 6), type := 3, pos := "ref.go:41", after := #[{ on := 4, ground := Ground.guard }], guard := some (4, false) } : Oper)) (v := undef) rfl (by kernel_rfl) (by kernel_rfl) (by kernel_rfl) (fun _ _ _ h => h) (Or.inr ⟨by rfl, rfl⟩) (by assumption) ?_
        (try simp only [Act.put, List.setIfInBounds_toArray, List.set_cons_zero, List.set_cons_succ])
        refine wpAnyH_take (i := 6) (oi := ({ dst := some 25, op := Op.move (Operand.tmp 1), type := 22, pos := "ref.go:41", after := #[{ on := 4, ground := Ground.guard }], guard := some (4, false) } : Oper)) (v := undef) rfl (by kernel_rfl) (by kernel_rfl) (by kernel_rfl) (fun _ _ _ h => h) (Or.inr ⟨by rfl, rfl⟩) (by assumption) ?_
        (try simp only [Act.put, List.setIfInBounds_toArray, List.set_cons_zero, List.set_cons_succ])
        refine wpAnyH_take (i := 7) (oi := ({ dst := some 26, op := Op.call { callee := Callee.builtin Builtin.len, args := #[Operand.tmp 25], argTypes := #[22] }, type := 3, pos := "ref.go:41", after := #[{ on := 6, ground := Ground.data }, { on := 4, ground := Ground.guard }], guard := some (4, false) } : Oper)) (v := undef) rfl (by kernel_rfl) (by kernel_rfl) (by kernel_rfl) (fun _ _ _ h => h) (Or.inr ⟨by rfl, rfl⟩) (by assumption) ?_
        (try simp only [Act.put, List.setIfInBounds_toArray, List.set_cons_zero, List.set_cons_succ])
        refine wpAnyH_take (i := 8) (oi := ({ dst := some 27, op := Op.binOp BinOp.geq 3 (Operand.tmp 24) (Operand.tmp 26) 3, type := 4, pos := "ref.go:41", after := #[{ on := 5, ground := Ground.data }, { on := 7, ground := Ground.data }, { on := 4, ground := Ground.guard }], guard := some (4, false) } : Oper)) (v := undef) rfl (by kernel_rfl) (by kernel_rfl) (by kernel_rfl) (fun _ _ _ h => h) (Or.inr ⟨by rfl, rfl⟩) (by assumption) ?_
        (try simp only [Act.put, List.setIfInBounds_toArray, List.set_cons_zero, List.set_cons_succ])
        refine wpAnyH_take (i := 9) (oi := ({ dst := some 28, op := Op.pick (Operand.tmp 23) (Operand.const (Value.bool true)) (Operand.tmp 27), type := 4, pos := "ref.go:41", after := #[{ on := 4, ground := Ground.data }, { on := 8, ground := Ground.data }], guard := none } : Oper)) (v := ?_) rfl (by kernel_rfl) (by kernel_rfl) (by kernel_rfl) (fun _ _ _ h => h) (Or.inl ⟨by rfl, ?_⟩) (by assumption) ?_
        rotate_left 1
        · intro w hSw; go_simp; try with_reducible rfl
        (try simp only [Act.put, List.setIfInBounds_toArray, List.set_cons_zero, List.set_cons_succ])
        refine wpAnyH_take (i := 10) (oi := ({ dst := some 29, op := Op.move (Operand.tmp 28), type := 4, pos := "ref.go:41", after := #[{ on := 9, ground := Ground.data }, { on := 4, ground := Ground.chain }], guard := none } : Oper)) (v := ?_) rfl (by kernel_rfl) (by kernel_rfl) (by kernel_rfl) (fun _ _ _ h => h) (Or.inl ⟨by rfl, ?_⟩) (by assumption) ?_
        rotate_left 1
        · intro w hSw; go_simp; try with_reducible rfl
        (try simp only [Act.put, List.setIfInBounds_toArray, List.set_cons_zero, List.set_cons_succ])
        refine wpAnyH_take (i := 11) (oi := ({ dst := some 30, op := Op.move (Operand.tmp 0), type := 22, pos := "ref.go:41", after := #[{ on := 10, ground := Ground.guard }], guard := some (10, false) } : Oper)) (v := undef) rfl (by kernel_rfl) (by kernel_rfl) (by kernel_rfl) (fun _ _ _ h => h) (Or.inr ⟨by rfl, rfl⟩) (by assumption) ?_
        (try simp only [Act.put, List.setIfInBounds_toArray, List.set_cons_zero, List.set_cons_succ])
        refine wpAnyH_take (i := 12) (oi := ({ dst := some 31, op := Op.move (Operand.tmp 6), type := 3, pos := "ref.go:41", after := #[{ on := 10, ground := Ground.guard }], guard := some (10, false) } : Oper)) (v := undef) rfl (by kernel_rfl) (by kernel_rfl) (by kernel_rfl) (fun _ _ _ h => h) (Or.inr ⟨by rfl, rfl⟩) (by assumption) ?_
        (try simp only [Act.put, List.setIfInBounds_toArray, List.set_cons_zero, List.set_cons_succ])
        refine wpAnyH_take (i := 13) (oi := ({ dst := some 32, op := Op.indexAddr 22 (Operand.tmp 30) (Operand.tmp 31), type := 0, pos := "ref.go:41", after := #[{ on := 11, ground := Ground.data }, { on := 12, ground := Ground.data }, { on := 10, ground := Ground.guard }], guard := some (10, false) } : Oper)) (v := undef) rfl (by kernel_rfl) (by kernel_rfl) (by kernel_rfl) (fun _ _ _ h => h) (Or.inr ⟨by rfl, rfl⟩) (by assumption) ?_
        (try simp only [Act.put, List.setIfInBounds_toArray, List.set_cons_zero, List.set_cons_succ])
        refine wpAnyH_take (i := 14) (oi := ({ dst := some 33, op := Op.load 31 (Operand.tmp 32), type := 31, pos := "ref.go:41", after := #[{ on := 13, ground := Ground.data }, { on := 10, ground := Ground.guard }], guard := some (10, false) } : Oper)) (v := undef) rfl (by kernel_rfl) (by kernel_rfl) (by kernel_rfl) (fun _ _ _ h => h) (Or.inr ⟨by rfl, rfl⟩) (by assumption) ?_
        (try simp only [Act.put, List.setIfInBounds_toArray, List.set_cons_zero, List.set_cons_succ])
        refine wpAnyH_take (i := 15) (oi := ({ dst := some 34, op := Op.move (Operand.tmp 1), type := 22, pos := "ref.go:41", after := #[{ on := 10, ground := Ground.guard }], guard := some (10, false) } : Oper)) (v := undef) rfl (by kernel_rfl) (by kernel_rfl) (by kernel_rfl) (fun _ _ _ h => h) (Or.inr ⟨by rfl, rfl⟩) (by assumption) ?_
        (try simp only [Act.put, List.setIfInBounds_toArray, List.set_cons_zero, List.set_cons_succ])
        refine wpAnyH_take (i := 16) (oi := ({ dst := some 35, op := Op.move (Operand.tmp 6), type := 3, pos := "ref.go:41", after := #[{ on := 10, ground := Ground.guard }], guard := some (10, false) } : Oper)) (v := undef) rfl (by kernel_rfl) (by kernel_rfl) (by kernel_rfl) (fun _ _ _ h => h) (Or.inr ⟨by rfl, rfl⟩) (by assumption) ?_
        (try simp only [Act.put, List.setIfInBounds_toArray, List.set_cons_zero, List.set_cons_succ])
        refine wpAnyH_take (i := 17) (oi := ({ dst := some 36, op := Op.indexAddr 22 (Operand.tmp 34) (Operand.tmp 35), type := 0, pos := "ref.go:41", after := #[{ on := 15, ground := Ground.data }, { on := 16, ground := Ground.data }, { on := 10, ground := Ground.guard }], guard := some (10, false) } : Oper)) (v := undef) rfl (by kernel_rfl) (by kernel_rfl) (by kernel_rfl) (fun _ _ _ h => h) (Or.inr ⟨by rfl, rfl⟩) (by assumption) ?_
        (try simp only [Act.put, List.setIfInBounds_toArray, List.set_cons_zero, List.set_cons_succ])
        refine wpAnyH_take (i := 18) (oi := ({ dst := some 37, op := Op.load 31 (Operand.tmp 36), type := 31, pos := "ref.go:41", after := #[{ on := 17, ground := Ground.data }, { on := 10, ground := Ground.guard }], guard := some (10, false) } : Oper)) (v := undef) rfl (by kernel_rfl) (by kernel_rfl) (by kernel_rfl) (fun _ _ _ h => h) (Or.inr ⟨by rfl, rfl⟩) (by assumption) ?_
        (try simp only [Act.put, List.setIfInBounds_toArray, List.set_cons_zero, List.set_cons_succ])
        refine wpAnyH_take (i := 19) (oi := ({ dst := some 38, op := Op.call { callee := Callee.value (Operand.func 16), args := #[Operand.tmp 33, Operand.tmp 37], argTypes := #[31, 31] }, type := 3, pos := "ref.go:41", after := #[{ on := 14, ground := Ground.data }, { on := 18, ground := Ground.data }, { on := 10, ground := Ground.chain }, { on := 10, ground := Ground.guard }], guard := some (10, false) } : Oper)) (v := undef) rfl (by kernel_rfl) (by kernel_rfl) (by kernel_rfl) (fun _ _ _ h => h) (Or.inr ⟨by rfl, rfl⟩) (by assumption) ?_
        (try simp only [Act.put, List.setIfInBounds_toArray, List.set_cons_zero, List.set_cons_succ])
        refine wpAnyH_take (i := 20) (oi := ({ dst := some 39, op := Op.binOp BinOp.neq 3 (Operand.tmp 38) (Operand.const (Value.int IntKind.i64 0)) 3, type := 4, pos := "ref.go:41", after := #[{ on := 19, ground := Ground.data }, { on := 10, ground := Ground.guard }], guard := some (10, false) } : Oper)) (v := undef) rfl (by kernel_rfl) (by kernel_rfl) (by kernel_rfl) (fun _ _ _ h => h) (Or.inr ⟨by rfl, rfl⟩) (by assumption) ?_
        (try simp only [Act.put, List.setIfInBounds_toArray, List.set_cons_zero, List.set_cons_succ])
        refine wpAnyH_take (i := 21) (oi := ({ dst := some 40, op := Op.pick (Operand.tmp 29) (Operand.const (Value.bool true)) (Operand.tmp 39), type := 4, pos := "ref.go:41", after := #[{ on := 10, ground := Ground.data }, { on := 20, ground := Ground.data }], guard := none } : Oper)) (v := ?_) rfl (by kernel_rfl) (by kernel_rfl) (by kernel_rfl) (fun _ _ _ h => h) (Or.inl ⟨by rfl, ?_⟩) (by assumption) ?_
        rotate_left 1
        · intro w hSw; go_simp; try with_reducible rfl
        (try simp only [Act.put, List.setIfInBounds_toArray, List.set_cons_zero, List.set_cons_succ])
        refine wpAnyH_done (by kernel_rfl) ?_ _
        go_wp2
        go_ret2
        rw [firstOf_end HS.out (by rw [LN.out]; omega) (by rw [MN.out]; omega) (by rw [LN.out, MN.out]; omega), decide_eq_false hne]
        exact ⟨rfl, HB.out.trans (below_drew _ _)⟩
      · obtain rfl : k = n' := by omega
        have heq : l.length = m.length := by rw [LN.out, MN.out]
        go_wp2
        go_ret2
        rw [firstOf_end HS.out (by rw [LN.out]; omega) (by rw [MN.out]; omega) (by rw [LN.out, MN.out]; omega), decide_eq_true heq]
        exact ⟨rfl, HB.out⟩
end Go.Proofs.Ytdhgkbghlkhfeaa
