/- The contract of a meter's Emit. Conditions: events of at most 2^40 letters; numbers that Go can hold. -/
import Derived.Test.YtfkeceggiddlbaaGreatDoorMeterEv
import Derived.Test.YtfkeceggiddlbaaGreatDoorRegions
namespace Go.Proofs.YtfkeceggiddlbaaGreatDoor
open Go.RowKit Go.Shelf Go.Proofs.YtfkeceggiddlbaaGreatDoor.CharsPlain Go.Proofs.YtfkeceggiddlbaaGreatDoor.UriPlain Go.Proofs.YtfkeceggiddlbaaGreatDoor.SatPlain
set_option linter.unusedVariables false
set_option linter.unusedSimpArgs false
/-- What Emit tells, and leaves. -/
def TellEmit (g : Nat) (z xn n most on om deep wide doing : Int) (w : World) (e : Ending) (w' : World) : Prop := e = .returned (.int .i64 (emitE on om z)) ∧ MBlk g n most (emitO on om z) om deep wide (emitD on om z doing xn) w' ∧ Below g w w' ∧ KeepsBut g w w'
theorem MBlk.set2 {g : Nat} {n most on om deep wide doing : Int} {w : World} (h : MBlk g n most on om deep wide doing w) (x : Int) : MBlk g n most x om deep wide doing (w.setCell ⟨g, 2, none⟩ (.int .i64 x)) := Go.Joins.block_setCell h _
theorem MBlk.set6 {g : Nat} {n most on om deep wide doing : Int} {w : World} (h : MBlk g n most on om deep wide doing w) (x : Int) : MBlk g n most on om deep wide x (w.setCell ⟨g, 6, none⟩ (.int .i64 x)) := Go.Joins.block_setCell h _
theorem cell_setCell_block (w : World) (a : Addr) (v : Value) (p : Addr) (h : p.block ≠ a.block) : (w.setCell a v).cell? p = w.cell? p := by
  unfold World.cell?
  rw [Below.heap_setCell w a v p.block h]
theorem addS_small (a b : Int) (ha : 0 ≤ a) (hb : 0 ≤ b) (h : a + b ≤ 9223372036854775807) : addS a b = a + b := by
  unfold addS holdS cap; omega
set_option maxRecDepth 100000 in
set_option maxHeartbeats 4000000 in
theorem memit_any (g : Nat) (x : Ev) (n most on om deep wide doing : Int) (w : World) (h : MBlk g n most on om deep wide doing w) (hok : EvOk w x) (hz : x.size ≤ 1099511627776) (hxn : x.n ≤ 1099511627776) (ho : 0 ≤ on) (ho2 : on ≤ 1099511627776) (hk : 0 ≤ doing) (hk2 : doing ≤ 1099511627776) (hg : g < w.heap.size) :
    Calls Tryz.prog 13 #[.pointer (some ⟨g, 0, none⟩), .agg #[.int .i64 x.k, .string x.sp, .string x.lo, .slice x.A x.n x.c, .string x.tx]] w (TellEmit g x.size x.n n most on om deep wide doing w) := by
  obtain ⟨W1, hW1, B1, e0, e1, e2, e3, e4⟩ := evBox w x 45
  have s1 : W1.heap.size = w.heap.size + 1 := by rw [← hW1]; simp
  have HMB := Lib.hid (h.below B1)
  have C := Lib.hid (fun w' hok' => mbytes_any x w' hok' hz)
  have HOK := Lib.hid (hok.below B1)
  have HB1 := Lib.hid B1
  have HS1 := Lib.hid s1
  have HW1 := Lib.hid hW1
  obtain ⟨z, hzz⟩ : ∃ z, z = x.size := ⟨_, rfl⟩
  rw [← hzz] at C hz ⊢
  have hgw : ¬ g = w.heap.size := by omega
  clear hW1 B1 s1 hok h hzz
  have hzn : (0 : Int) ≤ (z : Int) := by omega
  have hadd := Lib.hid (addS_small on z ho (by omega) (by omega))
  have h1 : on ≤ 9223372036854775807 := by omega
  have h2 : (z : Int) ≤ 9223372036854775807 := by omega
  by_cases hc : om < on + (z : Int)
  · have HN : Hid (emitO on om z = on) := if_pos hc
    have HD : Hid (emitD on om z doing x.n = doing) := if_pos hc
    have HE : Hid (emitE on om z = 11) := if_pos hc
    have CA := Lib.hid (fun w' c0 c1 => cadd_no g 2 on om z w' c0 c1 h1 h2 (by rw [hadd.out]; exact hc))
    clear hc
    go_enter Tryz.func13, Tryz.ntmps13
    go_wp2_with fail
    rw [HW1.out]
    go_region_held3 (fun W => W.cell? ⟨w.heap.size, 0, none⟩ = some (.int .i64 x.k) ∧ W.cell? ⟨w.heap.size, 1, none⟩ = some (.string x.sp) ∧ W.cell? ⟨w.heap.size, 2, none⟩ = some (.string x.lo) ∧ W.cell? ⟨w.heap.size, 3, none⟩ = some (.slice x.A x.n x.c) ∧ W.cell? ⟨w.heap.size, 4, none⟩ = some (.string x.tx)) (first | exact hK | exact ⟨e0, e1, e2, e3, e4⟩)
      (first
      | (go_at_call 14; refine (C.out _ (HOK.out.below (below_drew _ _))).mono ?_; rintro y w2 ⟨rfl, hb2⟩; have HB2 : Below W1.heap.size W1 w2 := (below_drew _ _).trans hb2; have hK : w2.cell? ⟨w.heap.size, 0, none⟩ = some (.int .i64 x.k) ∧ w2.cell? ⟨w.heap.size, 1, none⟩ = some (.string x.sp) ∧ w2.cell? ⟨w.heap.size, 2, none⟩ = some (.string x.lo) ∧ w2.cell? ⟨w.heap.size, 3, none⟩ = some (.slice x.A x.n x.c) ∧ w2.cell? ⟨w.heap.size, 4, none⟩ = some (.string x.tx) := ⟨(HB2.cell (p := ⟨w.heap.size, 0, none⟩) (by show w.heap.size < W1.heap.size; have := HS1.out; omega)).trans e0, (HB2.cell (p := ⟨w.heap.size, 1, none⟩) (by show w.heap.size < W1.heap.size; have := HS1.out; omega)).trans e1, (HB2.cell (p := ⟨w.heap.size, 2, none⟩) (by show w.heap.size < W1.heap.size; have := HS1.out; omega)).trans e2, (HB2.cell (p := ⟨w.heap.size, 3, none⟩) (by show w.heap.size < W1.heap.size; have := HS1.out; omega)).trans e3, (HB2.cell (p := ⟨w.heap.size, 4, none⟩) (by show w.heap.size < W1.heap.size; have := HS1.out; omega)).trans e4⟩; have HM2 := Lib.hid (HMB.out.below HB2); clear hb2)
      | (go_at_call 26; refine (CA.out _ HM2.out.cells.2.2.1 HM2.out.cells.2.2.2.1).mono ?_; rintro y w' ⟨rfl, rfl⟩))
    go_wp2
    go_ret
    unfold TellEmit
    rw [HN.out, HD.out, HE.out]
    refine ⟨rfl, HM2.out, (HB1.out.mono ?_).trans (HB2.mono ?_), ?_⟩
    · omega
    · have := HS1.out; omega
    · exact (KeepsBut.of_below g HB1.out).trans (KeepsBut.of_below g HB2)
  · have HN : Hid (emitO on om z = on + z) := if_neg hc
    have HD : Hid (emitD on om z doing x.n = doing + 1 + x.n) := if_neg hc
    have HE : Hid (emitE on om z = 0) := if_neg hc
    have CA := Lib.hid (fun w' c0 c1 f0 => cadd_yes g 2 on om z w' c0 c1 f0 h1 h2 (by rw [hadd.out]; exact hc))
    rw [hadd.out] at CA
    clear hc
    go_enter Tryz.func13, Tryz.ntmps13
    go_wp2_with fail
    rw [HW1.out]
    go_region_held3 (fun W => W.cell? ⟨w.heap.size, 0, none⟩ = some (.int .i64 x.k) ∧ W.cell? ⟨w.heap.size, 1, none⟩ = some (.string x.sp) ∧ W.cell? ⟨w.heap.size, 2, none⟩ = some (.string x.lo) ∧ W.cell? ⟨w.heap.size, 3, none⟩ = some (.slice x.A x.n x.c) ∧ W.cell? ⟨w.heap.size, 4, none⟩ = some (.string x.tx)) (first | exact hK3 | exact hK | exact ⟨e0, e1, e2, e3, e4⟩)
      (first
      | (go_at_call 14; refine (C.out _ (HOK.out.below (below_drew _ _))).mono ?_; rintro y w2 ⟨rfl, hb2⟩; have HB2 : Below W1.heap.size W1 w2 := (below_drew _ _).trans hb2; have hK : w2.cell? ⟨w.heap.size, 0, none⟩ = some (.int .i64 x.k) ∧ w2.cell? ⟨w.heap.size, 1, none⟩ = some (.string x.sp) ∧ w2.cell? ⟨w.heap.size, 2, none⟩ = some (.string x.lo) ∧ w2.cell? ⟨w.heap.size, 3, none⟩ = some (.slice x.A x.n x.c) ∧ w2.cell? ⟨w.heap.size, 4, none⟩ = some (.string x.tx) := ⟨(HB2.cell (p := ⟨w.heap.size, 0, none⟩) (by show w.heap.size < W1.heap.size; have := HS1.out; omega)).trans e0, (HB2.cell (p := ⟨w.heap.size, 1, none⟩) (by show w.heap.size < W1.heap.size; have := HS1.out; omega)).trans e1, (HB2.cell (p := ⟨w.heap.size, 2, none⟩) (by show w.heap.size < W1.heap.size; have := HS1.out; omega)).trans e2, (HB2.cell (p := ⟨w.heap.size, 3, none⟩) (by show w.heap.size < W1.heap.size; have := HS1.out; omega)).trans e3, (HB2.cell (p := ⟨w.heap.size, 4, none⟩) (by show w.heap.size < W1.heap.size; have := HS1.out; omega)).trans e4⟩; have HM2 := Lib.hid (HMB.out.below HB2); clear hb2)
      | (go_at_call 26; refine (CA.out _ HM2.out.cells.2.2.1 HM2.out.cells.2.2.2.1 (HM2.out.free 2)).mono ?_; rintro y w3 ⟨rfl, hw3⟩; have HM3 : Hid (MBlk g n most (on + z) om deep wide doing w3) := (by rw [hw3]; exact HM2.out.set2 _ : MBlk g n most (on + z) om deep wide doing w3); have HKB : KeepsBut g w2 w3 := (by rw [hw3]; exact KeepsBut.set _ _ _ _); have HB3 : Below g w2 w3 := by rw [hw3]; exact (Below.refl g w2).setCell (p := ⟨g, 2, none⟩) (Nat.le_refl _) _
         have hz3 : w3.heap.size = w2.heap.size := by rw [hw3]; simp
         have hK3 : w3.cell? ⟨w.heap.size, 0, none⟩ = some (.int .i64 x.k) ∧ w3.cell? ⟨w.heap.size, 1, none⟩ = some (.string x.sp) ∧ w3.cell? ⟨w.heap.size, 2, none⟩ = some (.string x.lo) ∧ w3.cell? ⟨w.heap.size, 3, none⟩ = some (.slice x.A x.n x.c) ∧ w3.cell? ⟨w.heap.size, 4, none⟩ = some (.string x.tx) := by rw [hw3]; exact ⟨(cell_setCell_block w2 _ _ _ (Ne.symm hgw)).trans hK.1, (cell_setCell_block w2 _ _ _ (Ne.symm hgw)).trans hK.2.1, (cell_setCell_block w2 _ _ _ (Ne.symm hgw)).trans hK.2.2.1, (cell_setCell_block w2 _ _ _ (Ne.symm hgw)).trans hK.2.2.2.1, (cell_setCell_block w2 _ _ _ (Ne.symm hgw)).trans hK.2.2.2.2⟩
         clear hw3))
    have n3 := hK3.2.2.2.1
    obtain ⟨-, -, -, -, -, -, m6⟩ := HM3.out.cells
    have f6 := HM3.out.free 6
    have hs2 : addS doing (1 + (x.n : Int)) = doing + 1 + x.n := by rw [addS_small _ _ hk (by omega) (by omega)]; omega
    have CD := fun w' => madd_any doing (1 + (x.n : Int)) w' (by omega) (by omega)
    rw [hs2] at CD
    have CD := Lib.hid CD
    have ws : IntKind.i64.wrap (1 + (x.n : Int)) = 1 + (x.n : Int) := IntWalk.i64_in _ (by omega)
    clear hs2 hK hK3 e0 e1 e2 e3 e4 C CA
    go_wp2_with fail
    have m6d : w3.drew.cell? ⟨g, 6, none⟩ = some (.int .i64 doing) := m6
    have n3d : w3.drew.cell? ⟨w.heap.size, 3, none⟩ = some (.slice x.A x.n x.c) := n3
    refine wp_region_late [(12, fun w' => w'.cell? ⟨g, 6, none⟩ = some (.int .i64 doing) ∧ w'.cell? ⟨w.heap.size, 3, none⟩ = some (.slice x.A x.n x.c))] (by kernel_rfl) ⟨.inr ⟨m6d, n3d⟩, trivial⟩ (fun hC0 => ?_)
    have f6d : w3.drew.frozen? ⟨g, 6, none⟩ = false := f6
    have HM3d : Hid (MBlk g n most (on + z) om deep wide doing w3.drew) := HM3.out
    have HBd : Hid (Below g w w3.drew ∧ KeepsBut g w w3.drew) := by
      have h1 := HS1.out
      have h2 := HB2.size
      exact ⟨((HB1.out.mono (by omega)).trans (HB2.mono (by omega))).trans (HB3.trans (below_drew _ _)), (((KeepsBut.of_below g HB1.out).trans (KeepsBut.of_below g HB2)).trans HKB).trans (KeepsBut.of_below g (below_drew _ _))⟩
    clear m6 n3 f6 HM3 HB3 hz3 HB2 HM2 HKB
    generalize w3.drew = W0 at *
    refine wpAnyL_pure (i := 0) (oi := ({ dst := some 17, op := Op.move (Operand.tmp 0), type := 31, pos := "meter.go:79", after := #[], guard := none } : Oper)) (v := ?_) rfl (by kernel_rfl) (by kernel_rfl) (by kernel_rfl) (by kernel_rfl) (fun _ _ _ h => h) (Or.inl ⟨by rfl, ?_⟩) (by assumption) (by kernel_rfl) ?_
    rotate_left 1
    · intro w hSw; clear hSw; go_simp; try with_reducible rfl
    (try simp only [Act.put, List.setIfInBounds_toArray, List.set_cons_zero, List.set_cons_succ])
    refine wpAnyL_pure (i := 1) (oi := ({ dst := some 18, op := Op.move (Operand.tmp 0), type := 31, pos := "meter.go:79", after := #[], guard := none } : Oper)) (v := ?_) rfl (by kernel_rfl) (by kernel_rfl) (by kernel_rfl) (by kernel_rfl) (fun _ _ _ h => h) (Or.inl ⟨by rfl, ?_⟩) (by assumption) (by kernel_rfl) ?_
    rotate_left 1
    · intro w hSw; clear hSw; go_simp; try with_reducible rfl
    (try simp only [Act.put, List.setIfInBounds_toArray, List.set_cons_zero, List.set_cons_succ])
    refine wpAnyL_pure (i := 2) (oi := ({ dst := some 19, op := Op.nilCheck (Operand.tmp 18), type := 0, pos := "meter.go:79", after := #[{ on := 1, ground := Ground.data }], guard := none } : Oper)) (v := ?_) rfl (by kernel_rfl) (by kernel_rfl) (by kernel_rfl) (by kernel_rfl) (fun _ _ _ h => h) (Or.inl ⟨by rfl, ?_⟩) (by assumption) (by kernel_rfl) ?_
    rotate_left 1
    · intro w hSw; clear hSw; go_simp; try with_reducible rfl
    (try simp only [Act.put, List.setIfInBounds_toArray, List.set_cons_zero, List.set_cons_succ])
    refine wpAnyL_pure (i := 3) (oi := ({ dst := some 20, op := Op.fieldAddr 59 (Operand.tmp 19) 4, type := 0, pos := "meter.go:79", after := #[{ on := 2, ground := Ground.data }], guard := none } : Oper)) (v := ?_) rfl (by kernel_rfl) (by kernel_rfl) (by kernel_rfl) (by kernel_rfl) (fun _ _ _ h => h) (Or.inl ⟨by rfl, ?_⟩) (by assumption) (by kernel_rfl) ?_
    rotate_left 1
    · intro w hSw; clear hSw; go_simp; try with_reducible rfl
    (try simp only [Act.put, List.setIfInBounds_toArray, List.set_cons_zero, List.set_cons_succ])
    refine wpAnyL_take (i := 4) 0 (oi := ({ dst := some 21, op := Op.load 3 (Operand.tmp 20), type := 3, pos := "meter.go:79", after := #[{ on := 3, ground := Ground.data }], guard := none } : Oper)) (v := ?_) rfl (by kernel_rfl) (by kernel_rfl) (by kernel_rfl) rfl (by kernel_rfl) (by kernel_rfl) (by kernel_rfl) (fun _ _ _ h => h) (Or.inl ⟨by rfl, ?_⟩) (by assumption) (by kernel_rfl) ?_
    rotate_left 1
    · intro w hSw; (try dsimp only at hSw); go_simp; try with_reducible rfl
    (try simp only [Act.put, List.setIfInBounds_toArray, List.set_cons_zero, List.set_cons_succ])
    refine wpAnyL_pure (i := 5) (oi := ({ dst := some 22, op := Op.fieldAddr 45 (Operand.tmp 3) 2, type := 0, pos := "meter.go:79", after := #[], guard := none } : Oper)) (v := ?_) rfl (by kernel_rfl) (by kernel_rfl) (by kernel_rfl) (by kernel_rfl) (fun _ _ _ h => h) (Or.inl ⟨by rfl, ?_⟩) (by assumption) (by kernel_rfl) ?_
    rotate_left 1
    · intro w hSw; clear hSw; go_simp; try with_reducible rfl
    (try simp only [Act.put, List.setIfInBounds_toArray, List.set_cons_zero, List.set_cons_succ])
    refine wpAnyL_take (i := 6) 0 (oi := ({ dst := some 23, op := Op.load 43 (Operand.tmp 22), type := 43, pos := "meter.go:79", after := #[{ on := 5, ground := Ground.data }], guard := none } : Oper)) (v := ?_) rfl (by kernel_rfl) (by kernel_rfl) (by kernel_rfl) rfl (by kernel_rfl) (by kernel_rfl) (by kernel_rfl) (fun _ _ _ h => h) (Or.inl ⟨by rfl, ?_⟩) (by assumption) (by kernel_rfl) ?_
    rotate_left 1
    · intro w hSw; (try dsimp only at hSw); go_simp; try with_reducible rfl
    (try simp only [Act.put, List.setIfInBounds_toArray, List.set_cons_zero, List.set_cons_succ])
    refine wpAnyL_pure (i := 7) (oi := ({ dst := some 24, op := Op.call { callee := Callee.builtin Builtin.len, args := #[Operand.tmp 23], argTypes := #[43] }, type := 3, pos := "meter.go:79", after := #[{ on := 6, ground := Ground.data }], guard := none } : Oper)) (v := ?_) rfl (by kernel_rfl) (by kernel_rfl) (by kernel_rfl) (by kernel_rfl) (fun _ _ _ h => h) (Or.inl ⟨by rfl, ?_⟩) (by assumption) (by kernel_rfl) ?_
    rotate_left 1
    · intro w hSw; clear hSw; go_simp; try with_reducible rfl
    (try simp only [Act.put, List.setIfInBounds_toArray, List.set_cons_zero, List.set_cons_succ])
    refine wpAnyL_pure (i := 8) (oi := ({ dst := some 25, op := Op.binOp BinOp.add 3 (Operand.const (Value.int IntKind.i64 1)) (Operand.tmp 24) 3, type := 3, pos := "meter.go:79", after := #[{ on := 7, ground := Ground.data }], guard := none } : Oper)) (v := ?_) rfl (by kernel_rfl) (by kernel_rfl) (by kernel_rfl) (by kernel_rfl) (fun _ _ _ h => h) (Or.inl ⟨by rfl, ?_⟩) (by assumption) (by kernel_rfl) ?_
    rotate_left 1
    · intro w hSw; clear hSw; go_simp; try with_reducible rfl
    (try simp only [Act.put, List.setIfInBounds_toArray, List.set_cons_zero, List.set_cons_succ])
    refine wpAnyL_ready (rs := [9]) (by kernel_rfl) (by simp) ?_
    refine AllReadyL.cons (o := _) rfl (fun K hK => ?_) AllReadyL.nil
    go_simp
    refine (CD.out _).mono ?_
    rintro e w' ⟨rfl, rfl⟩
    refine hK.out _ _ ⟨.inr ⟨m6d, n3d⟩, trivial⟩ (fun hC0 => ?_)
    clear hK K
    (try simp only [Act.put, List.setIfInBounds_toArray, List.set_cons_zero, List.set_cons_succ])
    refine wpAnyL_pure (i := 10) (oi := ({ dst := some 27, op := Op.nilCheck (Operand.tmp 17), type := 0, pos := "meter.go:79", after := #[{ on := 0, ground := Ground.data }, { on := 0, ground := Ground.phase }, { on := 1, ground := Ground.phase }, { on := 2, ground := Ground.phase }, { on := 3, ground := Ground.phase }, { on := 4, ground := Ground.phase }, { on := 5, ground := Ground.phase }, { on := 6, ground := Ground.phase }, { on := 7, ground := Ground.phase }, { on := 8, ground := Ground.phase }, { on := 9, ground := Ground.phase }], guard := none } : Oper)) (v := ?_) rfl (by kernel_rfl) (by kernel_rfl) (by kernel_rfl) (by kernel_rfl) (fun _ _ _ h => h) (Or.inl ⟨by rfl, ?_⟩) (by assumption) (by kernel_rfl) ?_
    rotate_left 1
    · intro w hSw; clear hSw; go_simp; try with_reducible rfl
    (try simp only [Act.put, List.setIfInBounds_toArray, List.set_cons_zero, List.set_cons_succ])
    refine wpAnyL_pure (i := 11) (oi := ({ dst := some 28, op := Op.fieldAddr 59 (Operand.tmp 27) 4, type := 0, pos := "meter.go:79", after := #[{ on := 10, ground := Ground.data }, { on := 0, ground := Ground.phase }, { on := 1, ground := Ground.phase }, { on := 2, ground := Ground.phase }, { on := 3, ground := Ground.phase }, { on := 4, ground := Ground.phase }, { on := 5, ground := Ground.phase }, { on := 6, ground := Ground.phase }, { on := 7, ground := Ground.phase }, { on := 8, ground := Ground.phase }, { on := 9, ground := Ground.phase }], guard := none } : Oper)) (v := ?_) rfl (by kernel_rfl) (by kernel_rfl) (by kernel_rfl) (by kernel_rfl) (fun _ _ _ h => h) (Or.inl ⟨by rfl, ?_⟩) (by assumption) (by kernel_rfl) ?_
    rotate_left 1
    · intro w hSw; clear hSw; go_simp; try with_reducible rfl
    (try simp only [Act.put, List.setIfInBounds_toArray, List.set_cons_zero, List.set_cons_succ])
    refine wpAnyL_ready (rs := [12]) (by kernel_rfl) (by simp) ?_
    refine AllReadyL.cons (o := _) rfl (fun K hK => ?_) AllReadyL.nil
    go_simp
    refine hK.out _ _ ⟨.inl (by kernel_rfl), trivial⟩ (fun hC0 => ?_)
    clear hK K
    (try simp only [Act.put, List.setIfInBounds_toArray, List.set_cons_zero, List.set_cons_succ])
    refine wpAnyL_done (by kernel_rfl) ?_ _
    go_wp2
    go_ret
    unfold TellEmit
    rw [HN.out, HD.out, HE.out]
    exact ⟨rfl, HM3d.out.set6 _, HBd.out.1.setCell (p := ⟨g, 6, none⟩) (Nat.le_refl _) _, HBd.out.2.trans (KeepsBut.set _ _ _ _)⟩
end Go.Proofs.YtfkeceggiddlbaaGreatDoor
