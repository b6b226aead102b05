/- dtd's rows: add, at entities, identifiers, elements, attributes (printed by gen-dtadd.py). Conditions: names within the reach. -/
import Derived.Test.YtapjmfgpdkghlaaDoorDtPend
import Derived.Test.YtapjmfgpdkghlaaDoorRegions
import Derived.Deep.Cut
import Derived.Lib.Builder
namespace Go.Proofs.YtapjmfgpdkghlaaDoor
open Go.RowKit Go.Maps
set_option linter.unusedVariables false
set_option linter.unusedSimpArgs false
theorem boxWorld (w : World) (cs : Array Value) (t : TypeId) : ∃ W, w.alloc (.cells cs t) = W ∧ W.heap.size = w.heap.size + 1 ∧ Below w.heap.size w W ∧ W.heap[w.heap.size]? = some (.cells cs t (0, 0)) :=
  ⟨_, rfl, by simp, (Below.refl _ _).alloc (Nat.le_refl _) _, heap_alloc_new w _⟩
theorem info_partsD {o : Option TypeInfo} {z : Option Value} {s b : Nat} (h : o.map (fun i => (i.zero, i.size, i.bytes)) = some (z, s, b)) : ∃ i, o = some i ∧ i.zero = z ∧ i.size = s ∧ i.bytes = b := by
  cases o with
  | none => cases h
  | some i => simp at h; exact ⟨i, rfl, h.1, h.2.1, h.2.2⟩
theorem cellsOf_block {w : World} {b : Nat} {cs : Array Value} {t : TypeId} (h : w.heap[b]? = some (.cells cs t (0, 0))) {j : Nat} {u : Value} (hj : cs[j]? = some u) : w.cell? ⟨b, j, none⟩ = some u := by
  rw [Lib.cell_of_heap h]; exact hj
theorem litCells (w : World) (cs : List Value) (t : TypeId) : ∀ j u, cs[j]? = some u → (w.alloc (.cells cs.toArray t)).cell? ((⟨w.heap.size, 0, none⟩ : Addr).add j) = some u := by
  intro j u hj
  have hadd : (⟨w.heap.size, 0, none⟩ : Addr).add j = ⟨w.heap.size, j, none⟩ := by unfold Addr.add; split <;> simp_all
  rw [hadd, Lib.cell_of_heap (heap_alloc_new w _)]
  simpa using hj
theorem Tryd.infoDEl : (Tryd.prog.info? 74).map (fun i => (i.zero, i.size, i.bytes)) = some (some (.agg #[.string ⟨#[]⟩, .pointer none]), 2, 24) := by kernel_rfl
set_option maxRecDepth 100000 in
set_option maxHeartbeats 8000000 in
theorem addEl_any (base : Nat) (R : Rm) (ns : List ByteArray) (xs : List Value) (s : ByteArray) (q : ByteArray) (p : Option Addr) (w : World) (h : RowAt w base 66 74 2 R ns xs) (hs : s.size ≤ maxLen) (hl : ns.length ≤ 1048576) (hb : base ≤ w.heap.size) :
    Calls Tryd.prog 49 #[.pointer (some ⟨R.rb, 0, none⟩), .string s, .agg #[.string q, .pointer p]] w (AddTold base 66 74 2 R ns xs s [.string q, .pointer p] w) := by
  obtain ⟨i0, hi0, hz0, hz1, hz2⟩ := info_partsD Tryd.infoDEl
  obtain ⟨W, hW, hsW, hBW, bx⟩ := boxWorld w #[.string q, .pointer p] 74
  have hW1 := h.below hBW
  have c0 := hW1.blk.cell0
  have c1 := hW1.blk.cell1
  have hlk := key_look hW1.map hW1.key s hs
  have HR := Lib.hid h
  have HB := Lib.hid hBW
  have BX := Lib.hid bx
  cases hh : hasT ns s with
  | true =>
    rw [hh] at hlk
    have HS := Lib.hid (AddTold.same (ys := [.string q, .pointer p]) h hBW hh)
    clear h hBW bx hW1 hsW hh
    go_enter Tryd.func49, Tryd.ntmps49
    go_wp2
    refine bodyPost_ret (v := .tuple #[]) (by simp [results, Tryd.results49, go_sem]) rfl ?_
    exact HS.out
  | false =>
    rw [hh] at hlk
    have HH := Lib.hid hh
    obtain ⟨W3, D', hup, hm3, hk3, hg3⟩ := key_store (w := W.drew) (hW1.map) hW1.key (by have := h.few; unfold maxLen; omega) s hs hh hl
    have P3 := Lib.hid (Pend.of_row h hBW.drew hg3 hm3 hk3)
    have k1 : W.drew.cell? ⟨R.rb, 0, none⟩ = some (.map (some R.M)) := c0
    have k2 : W.drew.cell? ⟨R.rb, 1, none⟩ = some (.slice R.A ns.length R.c) := c1
    have k3 := P3.out.blk.cell0
    have k4 := P3.out.blk.cell1
    have hxne : w.heap.size ≠ R.M := by have := h.map.lt; omega
    have BX3 := Lib.hid ((hg3.block w.heap.size (by show w.heap.size < W.heap.size; omega) (fun e => hxne (Option.some.inj e))).trans (show W.drew.heap[w.heap.size]? = _ from bx))
    clear h hBW bx hW1 hh hg3 hm3 hk3 hxne
    go_enter Tryd.func49, Tryd.ntmps49
    go_upto_region 3 with (fail)
    clear hW hsW hlk
    refine wp_region_held_drew (S := fun V => V.cell? ⟨R.rb, 0, none⟩ = some (.map (some R.M)) ∧ V.cell? ⟨R.rb, 1, none⟩ = some (.slice R.A ns.length R.c)) (by kernel_rfl) ⟨k1, k2⟩ (fun hHeld => ?_)
    --TAKES (*narthex/dtd.row[narthex/dtd.element]).add:3 0..9
    refine wpAnyH_take (i := 0) (oi := ({ dst := some 18, op := Op.move (Operand.tmp 0), type := 69, pos := "dtd.go:27", after := #[], guard := none } : Oper)) (v := ?_) rfl (by kernel_rfl) (by kernel_rfl) (by kernel_rfl) (fun _ _ _ h => h) (Or.inl ⟨by rfl, ?_⟩) (by assumption) ?_
    rotate_left 1
    · intro w hSw; (try dsimp only at hSw); go_simp; try with_reducible rfl
    (try simp only [Act.put, List.setIfInBounds_toArray, List.set_cons_zero, List.set_cons_succ])
    refine wpAnyH_take (i := 1) (oi := ({ dst := some 19, op := Op.nilCheck (Operand.tmp 18), type := 0, pos := "dtd.go:27", after := #[{ on := 0, ground := Ground.data }], guard := none } : Oper)) (v := ?_) rfl (by kernel_rfl) (by kernel_rfl) (by kernel_rfl) (fun _ _ _ h => h) (Or.inl ⟨by rfl, ?_⟩) (by assumption) ?_
    rotate_left 1
    · intro w hSw; (try dsimp only at hSw); go_simp; try with_reducible rfl
    (try simp only [Act.put, List.setIfInBounds_toArray, List.set_cons_zero, List.set_cons_succ])
    refine wpAnyH_take (i := 2) (oi := ({ dst := some 20, op := Op.fieldAddr 66 (Operand.tmp 19) 0, type := 0, pos := "dtd.go:27", after := #[{ on := 1, ground := Ground.data }], guard := none } : Oper)) (v := ?_) rfl (by kernel_rfl) (by kernel_rfl) (by kernel_rfl) (fun _ _ _ h => h) (Or.inl ⟨by rfl, ?_⟩) (by assumption) ?_
    rotate_left 1
    · intro w hSw; (try dsimp only at hSw); go_simp; try with_reducible rfl
    (try simp only [Act.put, List.setIfInBounds_toArray, List.set_cons_zero, List.set_cons_succ])
    refine wpAnyH_take (i := 3) (oi := ({ dst := some 21, op := Op.load 63 (Operand.tmp 20), type := 63, pos := "dtd.go:27", after := #[{ on := 2, ground := Ground.data }], guard := none } : Oper)) (v := ?_) rfl (by kernel_rfl) (by kernel_rfl) (by kernel_rfl) (fun _ _ _ h => h) (Or.inl ⟨by rfl, ?_⟩) (by assumption) ?_
    rotate_left 1
    · intro w hSw; (try dsimp only at hSw); go_simp; try with_reducible rfl
    (try simp only [Act.put, List.setIfInBounds_toArray, List.set_cons_zero, List.set_cons_succ])
    refine wpAnyH_take (i := 4) (oi := ({ dst := some 22, op := Op.move (Operand.tmp 1), type := 9, pos := "dtd.go:27", after := #[], guard := none } : Oper)) (v := ?_) rfl (by kernel_rfl) (by kernel_rfl) (by kernel_rfl) (fun _ _ _ h => h) (Or.inl ⟨by rfl, ?_⟩) (by assumption) ?_
    rotate_left 1
    · intro w hSw; (try dsimp only at hSw); go_simp; try with_reducible rfl
    (try simp only [Act.put, List.setIfInBounds_toArray, List.set_cons_zero, List.set_cons_succ])
    refine wpAnyH_take (i := 5) (oi := ({ dst := some 23, op := Op.move (Operand.tmp 0), type := 69, pos := "dtd.go:27", after := #[], guard := none } : Oper)) (v := ?_) rfl (by kernel_rfl) (by kernel_rfl) (by kernel_rfl) (fun _ _ _ h => h) (Or.inl ⟨by rfl, ?_⟩) (by assumption) ?_
    rotate_left 1
    · intro w hSw; (try dsimp only at hSw); go_simp; try with_reducible rfl
    (try simp only [Act.put, List.setIfInBounds_toArray, List.set_cons_zero, List.set_cons_succ])
    refine wpAnyH_take (i := 6) (oi := ({ dst := some 24, op := Op.nilCheck (Operand.tmp 23), type := 0, pos := "dtd.go:27", after := #[{ on := 5, ground := Ground.data }], guard := none } : Oper)) (v := ?_) rfl (by kernel_rfl) (by kernel_rfl) (by kernel_rfl) (fun _ _ _ h => h) (Or.inl ⟨by rfl, ?_⟩) (by assumption) ?_
    rotate_left 1
    · intro w hSw; (try dsimp only at hSw); go_simp; try with_reducible rfl
    (try simp only [Act.put, List.setIfInBounds_toArray, List.set_cons_zero, List.set_cons_succ])
    refine wpAnyH_take (i := 7) (oi := ({ dst := some 25, op := Op.fieldAddr 66 (Operand.tmp 24) 1, type := 0, pos := "dtd.go:27", after := #[{ on := 6, ground := Ground.data }], guard := none } : Oper)) (v := ?_) rfl (by kernel_rfl) (by kernel_rfl) (by kernel_rfl) (fun _ _ _ h => h) (Or.inl ⟨by rfl, ?_⟩) (by assumption) ?_
    rotate_left 1
    · intro w hSw; (try dsimp only at hSw); go_simp; try with_reducible rfl
    (try simp only [Act.put, List.setIfInBounds_toArray, List.set_cons_zero, List.set_cons_succ])
    refine wpAnyH_take (i := 8) (oi := ({ dst := some 26, op := Op.load 64 (Operand.tmp 25), type := 64, pos := "dtd.go:27", after := #[{ on := 7, ground := Ground.data }], guard := none } : Oper)) (v := ?_) rfl (by kernel_rfl) (by kernel_rfl) (by kernel_rfl) (fun _ _ _ h => h) (Or.inl ⟨by rfl, ?_⟩) (by assumption) ?_
    rotate_left 1
    · intro w hSw; (try dsimp only at hSw); go_simp; try with_reducible rfl
    (try simp only [Act.put, List.setIfInBounds_toArray, List.set_cons_zero, List.set_cons_succ])
    refine wpAnyH_take (i := 9) (oi := ({ dst := some 27, op := Op.call { callee := Callee.builtin Builtin.len, args := #[Operand.tmp 26], argTypes := #[64] }, type := 3, pos := "dtd.go:27", after := #[{ on := 8, ground := Ground.data }], guard := none } : Oper)) (v := ?_) rfl (by kernel_rfl) (by kernel_rfl) (by kernel_rfl) (fun _ _ _ h => h) (Or.inl ⟨by rfl, ?_⟩) (by assumption) ?_
    rotate_left 1
    · intro w hSw; (try dsimp only at hSw); go_simp; try with_reducible rfl
    (try simp only [Act.put, List.setIfInBounds_toArray, List.set_cons_zero, List.set_cons_succ])
    --END
    refine wpAnyH_ready (rs := [10]) (by kernel_rfl) (by simp) ?_
    refine AllReadyH.cons (o := _) rfl (fun K hK => ?_) AllReadyH.nil
    go_simp
    refine hK.out _ _ ⟨k3, k4⟩ (fun hHeld2 => ?_)
    clear hK K hHeld
    (try simp only [Act.put, List.setIfInBounds_toArray, List.set_cons_zero, List.set_cons_succ])
    refine wpAnyH_done (by kernel_rfl) ?_ _
    clear hHeld2 hup k1 k2 k3 k4 c0 c1
    have P4 := Lib.hid (P3.out.below (Below.refl _ W3).drew)
    have BX4 := Lib.hid (show W3.drew.heap[w.heap.size]? = _ from BX3.out)
    have q1 := P4.out.blk.cell1
    go_upto_region 4 with (fail)
    refine wp_region_late [(10, fun V => V.cell? ⟨R.rb, 1, none⟩ = some (.slice R.A ns.length R.c)), (6, fun V => V.cell? ⟨w.heap.size, 0, none⟩ = some (.string q) ∧ V.cell? ⟨w.heap.size, 1, none⟩ = some (.pointer p))] (by kernel_rfl) ⟨.inr q1, .inr ⟨cellsOf_block BX4.out rfl, cellsOf_block BX4.out rfl⟩, trivial⟩ (fun hC0 => ?_)
    --REG (*narthex/dtd.row[narthex/dtd.element]).add:4 0 1 2 3 4@0 5@1
    refine wpAnyL_pure (i := 0) (oi := ({ dst := some 28, op := Op.move (Operand.tmp 0), type := 69, pos := "dtd.go:28", after := #[], guard := none } : Oper)) (v := ?_) rfl (by kernel_rfl) (by kernel_rfl) (by kernel_rfl) (by kernel_rfl) (fun _ _ _ h => h) (Or.inl ⟨by rfl, ?_⟩) (by assumption) (by kernel_rfl) ?_
    rotate_left 1
    · intro w hSw; clear hSw; go_simp; try with_reducible rfl
    (try simp only [Act.put, List.setIfInBounds_toArray, List.set_cons_zero, List.set_cons_succ])
    refine wpAnyL_pure (i := 1) (oi := ({ dst := some 29, op := Op.move (Operand.tmp 0), type := 69, pos := "dtd.go:28", after := #[], guard := none } : Oper)) (v := ?_) rfl (by kernel_rfl) (by kernel_rfl) (by kernel_rfl) (by kernel_rfl) (fun _ _ _ h => h) (Or.inl ⟨by rfl, ?_⟩) (by assumption) (by kernel_rfl) ?_
    rotate_left 1
    · intro w hSw; clear hSw; go_simp; try with_reducible rfl
    (try simp only [Act.put, List.setIfInBounds_toArray, List.set_cons_zero, List.set_cons_succ])
    refine wpAnyL_pure (i := 2) (oi := ({ dst := some 30, op := Op.nilCheck (Operand.tmp 29), type := 0, pos := "dtd.go:28", after := #[{ on := 1, ground := Ground.data }], guard := none } : Oper)) (v := ?_) rfl (by kernel_rfl) (by kernel_rfl) (by kernel_rfl) (by kernel_rfl) (fun _ _ _ h => h) (Or.inl ⟨by rfl, ?_⟩) (by assumption) (by kernel_rfl) ?_
    rotate_left 1
    · intro w hSw; clear hSw; go_simp; try with_reducible rfl
    (try simp only [Act.put, List.setIfInBounds_toArray, List.set_cons_zero, List.set_cons_succ])
    refine wpAnyL_pure (i := 3) (oi := ({ dst := some 31, op := Op.fieldAddr 66 (Operand.tmp 30) 1, type := 0, pos := "dtd.go:28", after := #[{ on := 2, ground := Ground.data }], guard := none } : Oper)) (v := ?_) rfl (by kernel_rfl) (by kernel_rfl) (by kernel_rfl) (by kernel_rfl) (fun _ _ _ h => h) (Or.inl ⟨by rfl, ?_⟩) (by assumption) (by kernel_rfl) ?_
    rotate_left 1
    · intro w hSw; clear hSw; go_simp; try with_reducible rfl
    (try simp only [Act.put, List.setIfInBounds_toArray, List.set_cons_zero, List.set_cons_succ])
    refine wpAnyL_take (i := 4) 0 (oi := ({ dst := some 32, op := Op.load 64 (Operand.tmp 31), type := 64, pos := "dtd.go:28", after := #[{ on := 3, ground := Ground.data }], guard := none } : Oper)) (v := ?_) rfl (by kernel_rfl) (by kernel_rfl) (by kernel_rfl) rfl (by kernel_rfl) (by kernel_rfl) (by kernel_rfl) (fun _ _ _ h => h) (Or.inl ⟨by rfl, ?_⟩) (by assumption) (by kernel_rfl) ?_
    rotate_left 1
    · intro w hSw; (try dsimp only at hSw); go_simp; try with_reducible rfl
    (try simp only [Act.put, List.setIfInBounds_toArray, List.set_cons_zero, List.set_cons_succ])
    refine wpAnyL_take (i := 5) 1 (oi := ({ dst := some 33, op := Op.load 74 (Operand.tmp 5), type := 74, pos := "dtd.go:28", after := #[], guard := none } : Oper)) (v := ?_) rfl (by kernel_rfl) (by kernel_rfl) (by kernel_rfl) rfl (by kernel_rfl) (by kernel_rfl) (by kernel_rfl) (fun _ _ _ h => h) (Or.inl ⟨by rfl, ?_⟩) (by assumption) (by kernel_rfl) ?_
    rotate_left 1
    · intro w hSw; (try dsimp only at hSw); go_simp; try with_reducible rfl
    (try simp only [Act.put, List.setIfInBounds_toArray, List.set_cons_zero, List.set_cons_succ])
    --END
    generalize W3.drew = W4 at *
    have P5 := Lib.hid (P4.out.below ((Below.refl _ W4).alloc (Nat.le_refl _) (.cells #[.string q, .pointer p] 74)))
    have L5 := Lib.hid (litCells W4 [.string q, .pointer p] 74)
    have L6 := Lib.hid (show base ≤ (W4.alloc (.cells #[.string q, .pointer p] 74)).heap.size from Nat.le_trans hb (Nat.le_trans P4.out.keep.size (by simp)))
    have q5 := P5.out.blk.cell1
    refine wpAnyL_ready (rs := [6]) (by kernel_rfl) (by simp) ?_
    refine AllReadyL.cons (o := _) rfl (fun K hK => ?_) AllReadyL.nil
    go_simp
    refine hK.out _ _ ⟨.inr q5, .inl (by rfl), trivial⟩ (fun hC1 => ?_)
    clear hK K hC0
    (try simp only [Act.put, List.setIfInBounds_toArray, List.set_cons_zero, List.set_cons_succ])
    refine wpAnyL_ready (rs := [7]) (by kernel_rfl) (by simp) ?_
    refine AllReadyL.cons (o := _) rfl (fun K hK => ?_) AllReadyL.nil
    refine stepRow (by rfl) (.tmp 32) (.tmp 34) 64 (by rfl) base 74 i0 (.agg #[.string ⟨#[]⟩, .pointer none]) 2 24 Tryd.underlying64 hi0 hz0 hz1 hz2 (by rfl) (by decide) (.slice R.A ns.length R.c) ns.length xs (by rfl) P5.out.row ⟨W4.heap.size, 0, none⟩ 1 1 [.string q, .pointer p] (by rfl) (by rfl) L5.out (by intro u hu; simp at hu; rcases hu with rfl | rfl <;> rfl) (by unfold maxLen; omega) (by omega) L6.out ?_
    intro v7 W7 hown hgrow hblk
    obtain ⟨A7, c7, rfl, _⟩ := own_shapeD hown
    have P7 := Lib.hid (P5.out.grow (by decide) hown hgrow hblk)
    have q7 := P7.out.blk.cell1
    have m7 := P7.out.blk.frozen1
    clear hown hgrow hblk q5 q1 P5 L5 L6 P4
    refine hK.out _ _ ⟨.inr q7, .inl (by rfl), trivial⟩ (fun hC2 => ?_)
    clear hK K hC1
    (try simp only [Act.put, List.setIfInBounds_toArray, List.set_cons_zero, List.set_cons_succ])
    --REG (*narthex/dtd.row[narthex/dtd.element]).add:4 8 9
    refine wpAnyL_pure (i := 8) (oi := ({ dst := some 36, op := Op.nilCheck (Operand.tmp 28), type := 0, pos := "dtd.go:28", after := #[{ on := 0, ground := Ground.data }, { on := 0, ground := Ground.phase }, { on := 1, ground := Ground.phase }, { on := 2, ground := Ground.phase }, { on := 3, ground := Ground.phase }, { on := 4, ground := Ground.phase }, { on := 5, ground := Ground.phase }, { on := 6, ground := Ground.phase }, { on := 7, ground := Ground.phase }], guard := none } : Oper)) (v := ?_) rfl (by kernel_rfl) (by kernel_rfl) (by kernel_rfl) (by kernel_rfl) (fun _ _ _ h => h) (Or.inl ⟨by rfl, ?_⟩) (by assumption) (by kernel_rfl) ?_
    rotate_left 1
    · intro w hSw; clear hSw; go_simp; try with_reducible rfl
    (try simp only [Act.put, List.setIfInBounds_toArray, List.set_cons_zero, List.set_cons_succ])
    refine wpAnyL_pure (i := 9) (oi := ({ dst := some 37, op := Op.fieldAddr 66 (Operand.tmp 36) 1, type := 0, pos := "dtd.go:28", after := #[{ on := 8, ground := Ground.data }, { on := 0, ground := Ground.phase }, { on := 1, ground := Ground.phase }, { on := 2, ground := Ground.phase }, { on := 3, ground := Ground.phase }, { on := 4, ground := Ground.phase }, { on := 5, ground := Ground.phase }, { on := 6, ground := Ground.phase }, { on := 7, ground := Ground.phase }], guard := none } : Oper)) (v := ?_) rfl (by kernel_rfl) (by kernel_rfl) (by kernel_rfl) (by kernel_rfl) (fun _ _ _ h => h) (Or.inl ⟨by rfl, ?_⟩) (by assumption) (by kernel_rfl) ?_
    rotate_left 1
    · intro w hSw; clear hSw; go_simp; try with_reducible rfl
    (try simp only [Act.put, List.setIfInBounds_toArray, List.set_cons_zero, List.set_cons_succ])
    --END
    refine wpAnyL_ready (rs := [10]) (by kernel_rfl) (by simp) ?_
    refine AllReadyL.cons (o := _) rfl (fun K hK => ?_) AllReadyL.nil
    go_simp
    refine hK.out _ _ ⟨.inl (by rfl), .inl (by rfl), trivial⟩ (fun hC3 => ?_)
    clear hK K hC2
    (try simp only [Act.put, List.setIfInBounds_toArray, List.set_cons_zero, List.set_cons_succ])
    refine wpAnyL_done (by kernel_rfl) ?_ _
    clear hC3 q7 m7
    refine bodyPost_end (v := .tuple #[]) (by simp [results, Tryd.results49, go_sem]) rfl ?_
    exact P7.out.store (by decide) HH.out _ rfl
theorem Tryd.infoDEx : (Tryd.prog.info? 44).map (fun i => (i.zero, i.size, i.bytes)) = some (some (.agg #[.string ⟨#[]⟩, .string ⟨#[]⟩]), 2, 32) := by kernel_rfl
set_option maxRecDepth 100000 in
set_option maxHeartbeats 8000000 in
theorem addEx_any (base : Nat) (R : Rm) (ns : List ByteArray) (xs : List Value) (s : ByteArray) (p q : ByteArray) (w : World) (h : RowAt w base 91 44 2 R ns xs) (hs : s.size ≤ maxLen) (hl : ns.length ≤ 1048576) (hb : base ≤ w.heap.size) :
    Calls Tryd.prog 41 #[.pointer (some ⟨R.rb, 0, none⟩), .string s, .agg #[.string p, .string q]] w (AddTold base 91 44 2 R ns xs s [.string p, .string q] w) := by
  obtain ⟨i0, hi0, hz0, hz1, hz2⟩ := info_partsD Tryd.infoDEx
  obtain ⟨W, hW, hsW, hBW, bx⟩ := boxWorld w #[.string p, .string q] 44
  have hW1 := h.below hBW
  have c0 := hW1.blk.cell0
  have c1 := hW1.blk.cell1
  have hlk := key_look hW1.map hW1.key s hs
  have HR := Lib.hid h
  have HB := Lib.hid hBW
  have BX := Lib.hid bx
  cases hh : hasT ns s with
  | true =>
    rw [hh] at hlk
    have HS := Lib.hid (AddTold.same (ys := [.string p, .string q]) h hBW hh)
    clear h hBW bx hW1 hsW hh
    go_enter Tryd.func41, Tryd.ntmps41
    go_wp2
    refine bodyPost_ret (v := .tuple #[]) (by simp [results, Tryd.results41, go_sem]) rfl ?_
    exact HS.out
  | false =>
    rw [hh] at hlk
    have HH := Lib.hid hh
    obtain ⟨W3, D', hup, hm3, hk3, hg3⟩ := key_store (w := W.drew) (hW1.map) hW1.key (by have := h.few; unfold maxLen; omega) s hs hh hl
    have P3 := Lib.hid (Pend.of_row h hBW.drew hg3 hm3 hk3)
    have k1 : W.drew.cell? ⟨R.rb, 0, none⟩ = some (.map (some R.M)) := c0
    have k2 : W.drew.cell? ⟨R.rb, 1, none⟩ = some (.slice R.A ns.length R.c) := c1
    have k3 := P3.out.blk.cell0
    have k4 := P3.out.blk.cell1
    have hxne : w.heap.size ≠ R.M := by have := h.map.lt; omega
    have BX3 := Lib.hid ((hg3.block w.heap.size (by show w.heap.size < W.heap.size; omega) (fun e => hxne (Option.some.inj e))).trans (show W.drew.heap[w.heap.size]? = _ from bx))
    clear h hBW bx hW1 hh hg3 hm3 hk3 hxne
    go_enter Tryd.func41, Tryd.ntmps41
    go_upto_region 3 with (fail)
    clear hW hsW hlk
    refine wp_region_held_drew (S := fun V => V.cell? ⟨R.rb, 0, none⟩ = some (.map (some R.M)) ∧ V.cell? ⟨R.rb, 1, none⟩ = some (.slice R.A ns.length R.c)) (by kernel_rfl) ⟨k1, k2⟩ (fun hHeld => ?_)
    --TAKES (*narthex/dtd.row[narthex/api.ExtID]).add:3 0..9
    refine wpAnyH_take (i := 0) (oi := ({ dst := some 18, op := Op.move (Operand.tmp 0), type := 68, pos := "dtd.go:27", after := #[], guard := none } : Oper)) (v := ?_) rfl (by kernel_rfl) (by kernel_rfl) (by kernel_rfl) (fun _ _ _ h => h) (Or.inl ⟨by rfl, ?_⟩) (by assumption) ?_
    rotate_left 1
    · intro w hSw; (try dsimp only at hSw); go_simp; try with_reducible rfl
    (try simp only [Act.put, List.setIfInBounds_toArray, List.set_cons_zero, List.set_cons_succ])
    refine wpAnyH_take (i := 1) (oi := ({ dst := some 19, op := Op.nilCheck (Operand.tmp 18), type := 0, pos := "dtd.go:27", after := #[{ on := 0, ground := Ground.data }], guard := none } : Oper)) (v := ?_) rfl (by kernel_rfl) (by kernel_rfl) (by kernel_rfl) (fun _ _ _ h => h) (Or.inl ⟨by rfl, ?_⟩) (by assumption) ?_
    rotate_left 1
    · intro w hSw; (try dsimp only at hSw); go_simp; try with_reducible rfl
    (try simp only [Act.put, List.setIfInBounds_toArray, List.set_cons_zero, List.set_cons_succ])
    refine wpAnyH_take (i := 2) (oi := ({ dst := some 20, op := Op.fieldAddr 91 (Operand.tmp 19) 0, type := 0, pos := "dtd.go:27", after := #[{ on := 1, ground := Ground.data }], guard := none } : Oper)) (v := ?_) rfl (by kernel_rfl) (by kernel_rfl) (by kernel_rfl) (fun _ _ _ h => h) (Or.inl ⟨by rfl, ?_⟩) (by assumption) ?_
    rotate_left 1
    · intro w hSw; (try dsimp only at hSw); go_simp; try with_reducible rfl
    (try simp only [Act.put, List.setIfInBounds_toArray, List.set_cons_zero, List.set_cons_succ])
    refine wpAnyH_take (i := 3) (oi := ({ dst := some 21, op := Op.load 63 (Operand.tmp 20), type := 63, pos := "dtd.go:27", after := #[{ on := 2, ground := Ground.data }], guard := none } : Oper)) (v := ?_) rfl (by kernel_rfl) (by kernel_rfl) (by kernel_rfl) (fun _ _ _ h => h) (Or.inl ⟨by rfl, ?_⟩) (by assumption) ?_
    rotate_left 1
    · intro w hSw; (try dsimp only at hSw); go_simp; try with_reducible rfl
    (try simp only [Act.put, List.setIfInBounds_toArray, List.set_cons_zero, List.set_cons_succ])
    refine wpAnyH_take (i := 4) (oi := ({ dst := some 22, op := Op.move (Operand.tmp 1), type := 9, pos := "dtd.go:27", after := #[], guard := none } : Oper)) (v := ?_) rfl (by kernel_rfl) (by kernel_rfl) (by kernel_rfl) (fun _ _ _ h => h) (Or.inl ⟨by rfl, ?_⟩) (by assumption) ?_
    rotate_left 1
    · intro w hSw; (try dsimp only at hSw); go_simp; try with_reducible rfl
    (try simp only [Act.put, List.setIfInBounds_toArray, List.set_cons_zero, List.set_cons_succ])
    refine wpAnyH_take (i := 5) (oi := ({ dst := some 23, op := Op.move (Operand.tmp 0), type := 68, pos := "dtd.go:27", after := #[], guard := none } : Oper)) (v := ?_) rfl (by kernel_rfl) (by kernel_rfl) (by kernel_rfl) (fun _ _ _ h => h) (Or.inl ⟨by rfl, ?_⟩) (by assumption) ?_
    rotate_left 1
    · intro w hSw; (try dsimp only at hSw); go_simp; try with_reducible rfl
    (try simp only [Act.put, List.setIfInBounds_toArray, List.set_cons_zero, List.set_cons_succ])
    refine wpAnyH_take (i := 6) (oi := ({ dst := some 24, op := Op.nilCheck (Operand.tmp 23), type := 0, pos := "dtd.go:27", after := #[{ on := 5, ground := Ground.data }], guard := none } : Oper)) (v := ?_) rfl (by kernel_rfl) (by kernel_rfl) (by kernel_rfl) (fun _ _ _ h => h) (Or.inl ⟨by rfl, ?_⟩) (by assumption) ?_
    rotate_left 1
    · intro w hSw; (try dsimp only at hSw); go_simp; try with_reducible rfl
    (try simp only [Act.put, List.setIfInBounds_toArray, List.set_cons_zero, List.set_cons_succ])
    refine wpAnyH_take (i := 7) (oi := ({ dst := some 25, op := Op.fieldAddr 91 (Operand.tmp 24) 1, type := 0, pos := "dtd.go:27", after := #[{ on := 6, ground := Ground.data }], guard := none } : Oper)) (v := ?_) rfl (by kernel_rfl) (by kernel_rfl) (by kernel_rfl) (fun _ _ _ h => h) (Or.inl ⟨by rfl, ?_⟩) (by assumption) ?_
    rotate_left 1
    · intro w hSw; (try dsimp only at hSw); go_simp; try with_reducible rfl
    (try simp only [Act.put, List.setIfInBounds_toArray, List.set_cons_zero, List.set_cons_succ])
    refine wpAnyH_take (i := 8) (oi := ({ dst := some 26, op := Op.load 89 (Operand.tmp 25), type := 89, pos := "dtd.go:27", after := #[{ on := 7, ground := Ground.data }], guard := none } : Oper)) (v := ?_) rfl (by kernel_rfl) (by kernel_rfl) (by kernel_rfl) (fun _ _ _ h => h) (Or.inl ⟨by rfl, ?_⟩) (by assumption) ?_
    rotate_left 1
    · intro w hSw; (try dsimp only at hSw); go_simp; try with_reducible rfl
    (try simp only [Act.put, List.setIfInBounds_toArray, List.set_cons_zero, List.set_cons_succ])
    refine wpAnyH_take (i := 9) (oi := ({ dst := some 27, op := Op.call { callee := Callee.builtin Builtin.len, args := #[Operand.tmp 26], argTypes := #[89] }, type := 3, pos := "dtd.go:27", after := #[{ on := 8, ground := Ground.data }], guard := none } : Oper)) (v := ?_) rfl (by kernel_rfl) (by kernel_rfl) (by kernel_rfl) (fun _ _ _ h => h) (Or.inl ⟨by rfl, ?_⟩) (by assumption) ?_
    rotate_left 1
    · intro w hSw; (try dsimp only at hSw); go_simp; try with_reducible rfl
    (try simp only [Act.put, List.setIfInBounds_toArray, List.set_cons_zero, List.set_cons_succ])
    --END
    refine wpAnyH_ready (rs := [10]) (by kernel_rfl) (by simp) ?_
    refine AllReadyH.cons (o := _) rfl (fun K hK => ?_) AllReadyH.nil
    go_simp
    refine hK.out _ _ ⟨k3, k4⟩ (fun hHeld2 => ?_)
    clear hK K hHeld
    (try simp only [Act.put, List.setIfInBounds_toArray, List.set_cons_zero, List.set_cons_succ])
    refine wpAnyH_done (by kernel_rfl) ?_ _
    clear hHeld2 hup k1 k2 k3 k4 c0 c1
    have P4 := Lib.hid (P3.out.below (Below.refl _ W3).drew)
    have BX4 := Lib.hid (show W3.drew.heap[w.heap.size]? = _ from BX3.out)
    have q1 := P4.out.blk.cell1
    go_upto_region 4 with (fail)
    refine wp_region_late [(10, fun V => V.cell? ⟨R.rb, 1, none⟩ = some (.slice R.A ns.length R.c)), (6, fun V => V.cell? ⟨w.heap.size, 0, none⟩ = some (.string p) ∧ V.cell? ⟨w.heap.size, 1, none⟩ = some (.string q))] (by kernel_rfl) ⟨.inr q1, .inr ⟨cellsOf_block BX4.out rfl, cellsOf_block BX4.out rfl⟩, trivial⟩ (fun hC0 => ?_)
    --REG (*narthex/dtd.row[narthex/api.ExtID]).add:4 0 1 2 3 4@0 5@1
    refine wpAnyL_pure (i := 0) (oi := ({ dst := some 28, op := Op.move (Operand.tmp 0), type := 68, pos := "dtd.go:28", after := #[], guard := none } : Oper)) (v := ?_) rfl (by kernel_rfl) (by kernel_rfl) (by kernel_rfl) (by kernel_rfl) (fun _ _ _ h => h) (Or.inl ⟨by rfl, ?_⟩) (by assumption) (by kernel_rfl) ?_
    rotate_left 1
    · intro w hSw; clear hSw; go_simp; try with_reducible rfl
    (try simp only [Act.put, List.setIfInBounds_toArray, List.set_cons_zero, List.set_cons_succ])
    refine wpAnyL_pure (i := 1) (oi := ({ dst := some 29, op := Op.move (Operand.tmp 0), type := 68, pos := "dtd.go:28", after := #[], guard := none } : Oper)) (v := ?_) rfl (by kernel_rfl) (by kernel_rfl) (by kernel_rfl) (by kernel_rfl) (fun _ _ _ h => h) (Or.inl ⟨by rfl, ?_⟩) (by assumption) (by kernel_rfl) ?_
    rotate_left 1
    · intro w hSw; clear hSw; go_simp; try with_reducible rfl
    (try simp only [Act.put, List.setIfInBounds_toArray, List.set_cons_zero, List.set_cons_succ])
    refine wpAnyL_pure (i := 2) (oi := ({ dst := some 30, op := Op.nilCheck (Operand.tmp 29), type := 0, pos := "dtd.go:28", after := #[{ on := 1, ground := Ground.data }], guard := none } : Oper)) (v := ?_) rfl (by kernel_rfl) (by kernel_rfl) (by kernel_rfl) (by kernel_rfl) (fun _ _ _ h => h) (Or.inl ⟨by rfl, ?_⟩) (by assumption) (by kernel_rfl) ?_
    rotate_left 1
    · intro w hSw; clear hSw; go_simp; try with_reducible rfl
    (try simp only [Act.put, List.setIfInBounds_toArray, List.set_cons_zero, List.set_cons_succ])
    refine wpAnyL_pure (i := 3) (oi := ({ dst := some 31, op := Op.fieldAddr 91 (Operand.tmp 30) 1, type := 0, pos := "dtd.go:28", after := #[{ on := 2, ground := Ground.data }], guard := none } : Oper)) (v := ?_) rfl (by kernel_rfl) (by kernel_rfl) (by kernel_rfl) (by kernel_rfl) (fun _ _ _ h => h) (Or.inl ⟨by rfl, ?_⟩) (by assumption) (by kernel_rfl) ?_
    rotate_left 1
    · intro w hSw; clear hSw; go_simp; try with_reducible rfl
    (try simp only [Act.put, List.setIfInBounds_toArray, List.set_cons_zero, List.set_cons_succ])
    refine wpAnyL_take (i := 4) 0 (oi := ({ dst := some 32, op := Op.load 89 (Operand.tmp 31), type := 89, pos := "dtd.go:28", after := #[{ on := 3, ground := Ground.data }], guard := none } : Oper)) (v := ?_) rfl (by kernel_rfl) (by kernel_rfl) (by kernel_rfl) rfl (by kernel_rfl) (by kernel_rfl) (by kernel_rfl) (fun _ _ _ h => h) (Or.inl ⟨by rfl, ?_⟩) (by assumption) (by kernel_rfl) ?_
    rotate_left 1
    · intro w hSw; (try dsimp only at hSw); go_simp; try with_reducible rfl
    (try simp only [Act.put, List.setIfInBounds_toArray, List.set_cons_zero, List.set_cons_succ])
    refine wpAnyL_take (i := 5) 1 (oi := ({ dst := some 33, op := Op.load 44 (Operand.tmp 5), type := 44, pos := "dtd.go:28", after := #[], guard := none } : Oper)) (v := ?_) rfl (by kernel_rfl) (by kernel_rfl) (by kernel_rfl) rfl (by kernel_rfl) (by kernel_rfl) (by kernel_rfl) (fun _ _ _ h => h) (Or.inl ⟨by rfl, ?_⟩) (by assumption) (by kernel_rfl) ?_
    rotate_left 1
    · intro w hSw; (try dsimp only at hSw); go_simp; try with_reducible rfl
    (try simp only [Act.put, List.setIfInBounds_toArray, List.set_cons_zero, List.set_cons_succ])
    --END
    generalize W3.drew = W4 at *
    have P5 := Lib.hid (P4.out.below ((Below.refl _ W4).alloc (Nat.le_refl _) (.cells #[.string p, .string q] 44)))
    have L5 := Lib.hid (litCells W4 [.string p, .string q] 44)
    have L6 := Lib.hid (show base ≤ (W4.alloc (.cells #[.string p, .string q] 44)).heap.size from Nat.le_trans hb (Nat.le_trans P4.out.keep.size (by simp)))
    have q5 := P5.out.blk.cell1
    refine wpAnyL_ready (rs := [6]) (by kernel_rfl) (by simp) ?_
    refine AllReadyL.cons (o := _) rfl (fun K hK => ?_) AllReadyL.nil
    go_simp
    refine hK.out _ _ ⟨.inr q5, .inl (by rfl), trivial⟩ (fun hC1 => ?_)
    clear hK K hC0
    (try simp only [Act.put, List.setIfInBounds_toArray, List.set_cons_zero, List.set_cons_succ])
    refine wpAnyL_ready (rs := [7]) (by kernel_rfl) (by simp) ?_
    refine AllReadyL.cons (o := _) rfl (fun K hK => ?_) AllReadyL.nil
    refine stepRow (by rfl) (.tmp 32) (.tmp 34) 89 (by rfl) base 44 i0 (.agg #[.string ⟨#[]⟩, .string ⟨#[]⟩]) 2 32 Tryd.underlying89 hi0 hz0 hz1 hz2 (by rfl) (by decide) (.slice R.A ns.length R.c) ns.length xs (by rfl) P5.out.row ⟨W4.heap.size, 0, none⟩ 1 1 [.string p, .string q] (by rfl) (by rfl) L5.out (by intro u hu; simp at hu; rcases hu with rfl | rfl <;> rfl) (by unfold maxLen; omega) (by omega) L6.out ?_
    intro v7 W7 hown hgrow hblk
    obtain ⟨A7, c7, rfl, _⟩ := own_shapeD hown
    have P7 := Lib.hid (P5.out.grow (by decide) hown hgrow hblk)
    have q7 := P7.out.blk.cell1
    have m7 := P7.out.blk.frozen1
    clear hown hgrow hblk q5 q1 P5 L5 L6 P4
    refine hK.out _ _ ⟨.inr q7, .inl (by rfl), trivial⟩ (fun hC2 => ?_)
    clear hK K hC1
    (try simp only [Act.put, List.setIfInBounds_toArray, List.set_cons_zero, List.set_cons_succ])
    --REG (*narthex/dtd.row[narthex/api.ExtID]).add:4 8 9
    refine wpAnyL_pure (i := 8) (oi := ({ dst := some 36, op := Op.nilCheck (Operand.tmp 28), type := 0, pos := "dtd.go:28", after := #[{ on := 0, ground := Ground.data }, { on := 0, ground := Ground.phase }, { on := 1, ground := Ground.phase }, { on := 2, ground := Ground.phase }, { on := 3, ground := Ground.phase }, { on := 4, ground := Ground.phase }, { on := 5, ground := Ground.phase }, { on := 6, ground := Ground.phase }, { on := 7, ground := Ground.phase }], guard := none } : Oper)) (v := ?_) rfl (by kernel_rfl) (by kernel_rfl) (by kernel_rfl) (by kernel_rfl) (fun _ _ _ h => h) (Or.inl ⟨by rfl, ?_⟩) (by assumption) (by kernel_rfl) ?_
    rotate_left 1
    · intro w hSw; clear hSw; go_simp; try with_reducible rfl
    (try simp only [Act.put, List.setIfInBounds_toArray, List.set_cons_zero, List.set_cons_succ])
    refine wpAnyL_pure (i := 9) (oi := ({ dst := some 37, op := Op.fieldAddr 91 (Operand.tmp 36) 1, type := 0, pos := "dtd.go:28", after := #[{ on := 8, ground := Ground.data }, { on := 0, ground := Ground.phase }, { on := 1, ground := Ground.phase }, { on := 2, ground := Ground.phase }, { on := 3, ground := Ground.phase }, { on := 4, ground := Ground.phase }, { on := 5, ground := Ground.phase }, { on := 6, ground := Ground.phase }, { on := 7, ground := Ground.phase }], guard := none } : Oper)) (v := ?_) rfl (by kernel_rfl) (by kernel_rfl) (by kernel_rfl) (by kernel_rfl) (fun _ _ _ h => h) (Or.inl ⟨by rfl, ?_⟩) (by assumption) (by kernel_rfl) ?_
    rotate_left 1
    · intro w hSw; clear hSw; go_simp; try with_reducible rfl
    (try simp only [Act.put, List.setIfInBounds_toArray, List.set_cons_zero, List.set_cons_succ])
    --END
    refine wpAnyL_ready (rs := [10]) (by kernel_rfl) (by simp) ?_
    refine AllReadyL.cons (o := _) rfl (fun K hK => ?_) AllReadyL.nil
    go_simp
    refine hK.out _ _ ⟨.inl (by rfl), .inl (by rfl), trivial⟩ (fun hC3 => ?_)
    clear hK K hC2
    (try simp only [Act.put, List.setIfInBounds_toArray, List.set_cons_zero, List.set_cons_succ])
    refine wpAnyL_done (by kernel_rfl) ?_ _
    clear hC3 q7 m7
    refine bodyPost_end (v := .tuple #[]) (by simp [results, Tryd.results41, go_sem]) rfl ?_
    exact P7.out.store (by decide) HH.out _ rfl
theorem Tryd.infoDEn : (Tryd.prog.info? 46).map (fun i => (i.zero, i.size, i.bytes)) = some (some (.agg #[.string ⟨#[]⟩, .string ⟨#[]⟩, .bool false, .string ⟨#[]⟩, .string ⟨#[]⟩, .string ⟨#[]⟩]), 6, 88) := by kernel_rfl
set_option maxRecDepth 100000 in
set_option maxHeartbeats 8000000 in
theorem addEn_any (base : Nat) (R : Rm) (ns : List ByteArray) (xs : List Value) (s : ByteArray) (x : Ent) (w : World) (h : RowAt w base 87 46 6 R ns xs) (hs : s.size ≤ maxLen) (hl : ns.length ≤ 1048576) (hb : base ≤ w.heap.size) :
    Calls Tryd.prog 40 #[.pointer (some ⟨R.rb, 0, none⟩), .string s, .agg #[.string x.na, .string x.tx, .bool x.out, .string x.pu, .string x.sy, .string x.no]] w (AddTold base 87 46 6 R ns xs s [.string x.na, .string x.tx, .bool x.out, .string x.pu, .string x.sy, .string x.no] w) := by
  obtain ⟨i0, hi0, hz0, hz1, hz2⟩ := info_partsD Tryd.infoDEn
  obtain ⟨W, hW, hsW, hBW, bx⟩ := boxWorld w #[.string x.na, .string x.tx, .bool x.out, .string x.pu, .string x.sy, .string x.no] 46
  have hW1 := h.below hBW
  have c0 := hW1.blk.cell0
  have c1 := hW1.blk.cell1
  have hlk := key_look hW1.map hW1.key s hs
  have HR := Lib.hid h
  have HB := Lib.hid hBW
  have BX := Lib.hid bx
  cases hh : hasT ns s with
  | true =>
    rw [hh] at hlk
    have HS := Lib.hid (AddTold.same (ys := [.string x.na, .string x.tx, .bool x.out, .string x.pu, .string x.sy, .string x.no]) h hBW hh)
    clear h hBW bx hW1 hsW hh
    go_enter Tryd.func40, Tryd.ntmps40
    go_wp2
    refine bodyPost_ret (v := .tuple #[]) (by simp [results, Tryd.results40, go_sem]) rfl ?_
    exact HS.out
  | false =>
    rw [hh] at hlk
    have HH := Lib.hid hh
    obtain ⟨W3, D', hup, hm3, hk3, hg3⟩ := key_store (w := W.drew) (hW1.map) hW1.key (by have := h.few; unfold maxLen; omega) s hs hh hl
    have P3 := Lib.hid (Pend.of_row h hBW.drew hg3 hm3 hk3)
    have k1 : W.drew.cell? ⟨R.rb, 0, none⟩ = some (.map (some R.M)) := c0
    have k2 : W.drew.cell? ⟨R.rb, 1, none⟩ = some (.slice R.A ns.length R.c) := c1
    have k3 := P3.out.blk.cell0
    have k4 := P3.out.blk.cell1
    have hxne : w.heap.size ≠ R.M := by have := h.map.lt; omega
    have BX3 := Lib.hid ((hg3.block w.heap.size (by show w.heap.size < W.heap.size; omega) (fun e => hxne (Option.some.inj e))).trans (show W.drew.heap[w.heap.size]? = _ from bx))
    clear h hBW bx hW1 hh hg3 hm3 hk3 hxne
    go_enter Tryd.func40, Tryd.ntmps40
    go_upto_region 3 with (fail)
    clear hW hsW hlk
    refine wp_region_held_drew (S := fun V => V.cell? ⟨R.rb, 0, none⟩ = some (.map (some R.M)) ∧ V.cell? ⟨R.rb, 1, none⟩ = some (.slice R.A ns.length R.c)) (by kernel_rfl) ⟨k1, k2⟩ (fun hHeld => ?_)
    --TAKES (*narthex/dtd.row[narthex/api.Entity]).add:3 0..9
    refine wpAnyH_take (i := 0) (oi := ({ dst := some 18, op := Op.move (Operand.tmp 0), type := 67, pos := "dtd.go:27", after := #[], guard := none } : Oper)) (v := ?_) rfl (by kernel_rfl) (by kernel_rfl) (by kernel_rfl) (fun _ _ _ h => h) (Or.inl ⟨by rfl, ?_⟩) (by assumption) ?_
    rotate_left 1
    · intro w hSw; (try dsimp only at hSw); go_simp; try with_reducible rfl
    (try simp only [Act.put, List.setIfInBounds_toArray, List.set_cons_zero, List.set_cons_succ])
    refine wpAnyH_take (i := 1) (oi := ({ dst := some 19, op := Op.nilCheck (Operand.tmp 18), type := 0, pos := "dtd.go:27", after := #[{ on := 0, ground := Ground.data }], guard := none } : Oper)) (v := ?_) rfl (by kernel_rfl) (by kernel_rfl) (by kernel_rfl) (fun _ _ _ h => h) (Or.inl ⟨by rfl, ?_⟩) (by assumption) ?_
    rotate_left 1
    · intro w hSw; (try dsimp only at hSw); go_simp; try with_reducible rfl
    (try simp only [Act.put, List.setIfInBounds_toArray, List.set_cons_zero, List.set_cons_succ])
    refine wpAnyH_take (i := 2) (oi := ({ dst := some 20, op := Op.fieldAddr 87 (Operand.tmp 19) 0, type := 0, pos := "dtd.go:27", after := #[{ on := 1, ground := Ground.data }], guard := none } : Oper)) (v := ?_) rfl (by kernel_rfl) (by kernel_rfl) (by kernel_rfl) (fun _ _ _ h => h) (Or.inl ⟨by rfl, ?_⟩) (by assumption) ?_
    rotate_left 1
    · intro w hSw; (try dsimp only at hSw); go_simp; try with_reducible rfl
    (try simp only [Act.put, List.setIfInBounds_toArray, List.set_cons_zero, List.set_cons_succ])
    refine wpAnyH_take (i := 3) (oi := ({ dst := some 21, op := Op.load 63 (Operand.tmp 20), type := 63, pos := "dtd.go:27", after := #[{ on := 2, ground := Ground.data }], guard := none } : Oper)) (v := ?_) rfl (by kernel_rfl) (by kernel_rfl) (by kernel_rfl) (fun _ _ _ h => h) (Or.inl ⟨by rfl, ?_⟩) (by assumption) ?_
    rotate_left 1
    · intro w hSw; (try dsimp only at hSw); go_simp; try with_reducible rfl
    (try simp only [Act.put, List.setIfInBounds_toArray, List.set_cons_zero, List.set_cons_succ])
    refine wpAnyH_take (i := 4) (oi := ({ dst := some 22, op := Op.move (Operand.tmp 1), type := 9, pos := "dtd.go:27", after := #[], guard := none } : Oper)) (v := ?_) rfl (by kernel_rfl) (by kernel_rfl) (by kernel_rfl) (fun _ _ _ h => h) (Or.inl ⟨by rfl, ?_⟩) (by assumption) ?_
    rotate_left 1
    · intro w hSw; (try dsimp only at hSw); go_simp; try with_reducible rfl
    (try simp only [Act.put, List.setIfInBounds_toArray, List.set_cons_zero, List.set_cons_succ])
    refine wpAnyH_take (i := 5) (oi := ({ dst := some 23, op := Op.move (Operand.tmp 0), type := 67, pos := "dtd.go:27", after := #[], guard := none } : Oper)) (v := ?_) rfl (by kernel_rfl) (by kernel_rfl) (by kernel_rfl) (fun _ _ _ h => h) (Or.inl ⟨by rfl, ?_⟩) (by assumption) ?_
    rotate_left 1
    · intro w hSw; (try dsimp only at hSw); go_simp; try with_reducible rfl
    (try simp only [Act.put, List.setIfInBounds_toArray, List.set_cons_zero, List.set_cons_succ])
    refine wpAnyH_take (i := 6) (oi := ({ dst := some 24, op := Op.nilCheck (Operand.tmp 23), type := 0, pos := "dtd.go:27", after := #[{ on := 5, ground := Ground.data }], guard := none } : Oper)) (v := ?_) rfl (by kernel_rfl) (by kernel_rfl) (by kernel_rfl) (fun _ _ _ h => h) (Or.inl ⟨by rfl, ?_⟩) (by assumption) ?_
    rotate_left 1
    · intro w hSw; (try dsimp only at hSw); go_simp; try with_reducible rfl
    (try simp only [Act.put, List.setIfInBounds_toArray, List.set_cons_zero, List.set_cons_succ])
    refine wpAnyH_take (i := 7) (oi := ({ dst := some 25, op := Op.fieldAddr 87 (Operand.tmp 24) 1, type := 0, pos := "dtd.go:27", after := #[{ on := 6, ground := Ground.data }], guard := none } : Oper)) (v := ?_) rfl (by kernel_rfl) (by kernel_rfl) (by kernel_rfl) (fun _ _ _ h => h) (Or.inl ⟨by rfl, ?_⟩) (by assumption) ?_
    rotate_left 1
    · intro w hSw; (try dsimp only at hSw); go_simp; try with_reducible rfl
    (try simp only [Act.put, List.setIfInBounds_toArray, List.set_cons_zero, List.set_cons_succ])
    refine wpAnyH_take (i := 8) (oi := ({ dst := some 26, op := Op.load 37 (Operand.tmp 25), type := 37, pos := "dtd.go:27", after := #[{ on := 7, ground := Ground.data }], guard := none } : Oper)) (v := ?_) rfl (by kernel_rfl) (by kernel_rfl) (by kernel_rfl) (fun _ _ _ h => h) (Or.inl ⟨by rfl, ?_⟩) (by assumption) ?_
    rotate_left 1
    · intro w hSw; (try dsimp only at hSw); go_simp; try with_reducible rfl
    (try simp only [Act.put, List.setIfInBounds_toArray, List.set_cons_zero, List.set_cons_succ])
    refine wpAnyH_take (i := 9) (oi := ({ dst := some 27, op := Op.call { callee := Callee.builtin Builtin.len, args := #[Operand.tmp 26], argTypes := #[37] }, type := 3, pos := "dtd.go:27", after := #[{ on := 8, ground := Ground.data }], guard := none } : Oper)) (v := ?_) rfl (by kernel_rfl) (by kernel_rfl) (by kernel_rfl) (fun _ _ _ h => h) (Or.inl ⟨by rfl, ?_⟩) (by assumption) ?_
    rotate_left 1
    · intro w hSw; (try dsimp only at hSw); go_simp; try with_reducible rfl
    (try simp only [Act.put, List.setIfInBounds_toArray, List.set_cons_zero, List.set_cons_succ])
    --END
    refine wpAnyH_ready (rs := [10]) (by kernel_rfl) (by simp) ?_
    refine AllReadyH.cons (o := _) rfl (fun K hK => ?_) AllReadyH.nil
    go_simp
    refine hK.out _ _ ⟨k3, k4⟩ (fun hHeld2 => ?_)
    clear hK K hHeld
    (try simp only [Act.put, List.setIfInBounds_toArray, List.set_cons_zero, List.set_cons_succ])
    refine wpAnyH_done (by kernel_rfl) ?_ _
    clear hHeld2 hup k1 k2 k3 k4 c0 c1
    have P4 := Lib.hid (P3.out.below (Below.refl _ W3).drew)
    have BX4 := Lib.hid (show W3.drew.heap[w.heap.size]? = _ from BX3.out)
    have q1 := P4.out.blk.cell1
    go_upto_region 4 with (fail)
    refine wp_region_late [(10, fun V => V.cell? ⟨R.rb, 1, none⟩ = some (.slice R.A ns.length R.c)), (6, fun V => V.cell? ⟨w.heap.size, 0, none⟩ = some (.string x.na) ∧ V.cell? ⟨w.heap.size, 1, none⟩ = some (.string x.tx) ∧ V.cell? ⟨w.heap.size, 2, none⟩ = some (.bool x.out) ∧ V.cell? ⟨w.heap.size, 3, none⟩ = some (.string x.pu) ∧ V.cell? ⟨w.heap.size, 4, none⟩ = some (.string x.sy) ∧ V.cell? ⟨w.heap.size, 5, none⟩ = some (.string x.no))] (by kernel_rfl) ⟨.inr q1, .inr ⟨cellsOf_block BX4.out rfl, cellsOf_block BX4.out rfl, cellsOf_block BX4.out rfl, cellsOf_block BX4.out rfl, cellsOf_block BX4.out rfl, cellsOf_block BX4.out rfl⟩, trivial⟩ (fun hC0 => ?_)
    --REG (*narthex/dtd.row[narthex/api.Entity]).add:4 0 1 2 3 4@0 5@1
    refine wpAnyL_pure (i := 0) (oi := ({ dst := some 28, op := Op.move (Operand.tmp 0), type := 67, pos := "dtd.go:28", after := #[], guard := none } : Oper)) (v := ?_) rfl (by kernel_rfl) (by kernel_rfl) (by kernel_rfl) (by kernel_rfl) (fun _ _ _ h => h) (Or.inl ⟨by rfl, ?_⟩) (by assumption) (by kernel_rfl) ?_
    rotate_left 1
    · intro w hSw; clear hSw; go_simp; try with_reducible rfl
    (try simp only [Act.put, List.setIfInBounds_toArray, List.set_cons_zero, List.set_cons_succ])
    refine wpAnyL_pure (i := 1) (oi := ({ dst := some 29, op := Op.move (Operand.tmp 0), type := 67, pos := "dtd.go:28", after := #[], guard := none } : Oper)) (v := ?_) rfl (by kernel_rfl) (by kernel_rfl) (by kernel_rfl) (by kernel_rfl) (fun _ _ _ h => h) (Or.inl ⟨by rfl, ?_⟩) (by assumption) (by kernel_rfl) ?_
    rotate_left 1
    · intro w hSw; clear hSw; go_simp; try with_reducible rfl
    (try simp only [Act.put, List.setIfInBounds_toArray, List.set_cons_zero, List.set_cons_succ])
    refine wpAnyL_pure (i := 2) (oi := ({ dst := some 30, op := Op.nilCheck (Operand.tmp 29), type := 0, pos := "dtd.go:28", after := #[{ on := 1, ground := Ground.data }], guard := none } : Oper)) (v := ?_) rfl (by kernel_rfl) (by kernel_rfl) (by kernel_rfl) (by kernel_rfl) (fun _ _ _ h => h) (Or.inl ⟨by rfl, ?_⟩) (by assumption) (by kernel_rfl) ?_
    rotate_left 1
    · intro w hSw; clear hSw; go_simp; try with_reducible rfl
    (try simp only [Act.put, List.setIfInBounds_toArray, List.set_cons_zero, List.set_cons_succ])
    refine wpAnyL_pure (i := 3) (oi := ({ dst := some 31, op := Op.fieldAddr 87 (Operand.tmp 30) 1, type := 0, pos := "dtd.go:28", after := #[{ on := 2, ground := Ground.data }], guard := none } : Oper)) (v := ?_) rfl (by kernel_rfl) (by kernel_rfl) (by kernel_rfl) (by kernel_rfl) (fun _ _ _ h => h) (Or.inl ⟨by rfl, ?_⟩) (by assumption) (by kernel_rfl) ?_
    rotate_left 1
    · intro w hSw; clear hSw; go_simp; try with_reducible rfl
    (try simp only [Act.put, List.setIfInBounds_toArray, List.set_cons_zero, List.set_cons_succ])
    refine wpAnyL_take (i := 4) 0 (oi := ({ dst := some 32, op := Op.load 37 (Operand.tmp 31), type := 37, pos := "dtd.go:28", after := #[{ on := 3, ground := Ground.data }], guard := none } : Oper)) (v := ?_) rfl (by kernel_rfl) (by kernel_rfl) (by kernel_rfl) rfl (by kernel_rfl) (by kernel_rfl) (by kernel_rfl) (fun _ _ _ h => h) (Or.inl ⟨by rfl, ?_⟩) (by assumption) (by kernel_rfl) ?_
    rotate_left 1
    · intro w hSw; (try dsimp only at hSw); go_simp; try with_reducible rfl
    (try simp only [Act.put, List.setIfInBounds_toArray, List.set_cons_zero, List.set_cons_succ])
    refine wpAnyL_take (i := 5) 1 (oi := ({ dst := some 33, op := Op.load 46 (Operand.tmp 5), type := 46, pos := "dtd.go:28", after := #[], guard := none } : Oper)) (v := ?_) rfl (by kernel_rfl) (by kernel_rfl) (by kernel_rfl) rfl (by kernel_rfl) (by kernel_rfl) (by kernel_rfl) (fun _ _ _ h => h) (Or.inl ⟨by rfl, ?_⟩) (by assumption) (by kernel_rfl) ?_
    rotate_left 1
    · intro w hSw; (try dsimp only at hSw); go_simp; try with_reducible rfl
    (try simp only [Act.put, List.setIfInBounds_toArray, List.set_cons_zero, List.set_cons_succ])
    --END
    generalize W3.drew = W4 at *
    have P5 := Lib.hid (P4.out.below ((Below.refl _ W4).alloc (Nat.le_refl _) (.cells #[.string x.na, .string x.tx, .bool x.out, .string x.pu, .string x.sy, .string x.no] 46)))
    have L5 := Lib.hid (litCells W4 [.string x.na, .string x.tx, .bool x.out, .string x.pu, .string x.sy, .string x.no] 46)
    have L6 := Lib.hid (show base ≤ (W4.alloc (.cells #[.string x.na, .string x.tx, .bool x.out, .string x.pu, .string x.sy, .string x.no] 46)).heap.size from Nat.le_trans hb (Nat.le_trans P4.out.keep.size (by simp)))
    have q5 := P5.out.blk.cell1
    refine wpAnyL_ready (rs := [6]) (by kernel_rfl) (by simp) ?_
    refine AllReadyL.cons (o := _) rfl (fun K hK => ?_) AllReadyL.nil
    go_simp
    refine hK.out _ _ ⟨.inr q5, .inl (by rfl), trivial⟩ (fun hC1 => ?_)
    clear hK K hC0
    (try simp only [Act.put, List.setIfInBounds_toArray, List.set_cons_zero, List.set_cons_succ])
    refine wpAnyL_ready (rs := [7]) (by kernel_rfl) (by simp) ?_
    refine AllReadyL.cons (o := _) rfl (fun K hK => ?_) AllReadyL.nil
    refine stepRow (by rfl) (.tmp 32) (.tmp 34) 37 (by rfl) base 46 i0 (.agg #[.string ⟨#[]⟩, .string ⟨#[]⟩, .bool false, .string ⟨#[]⟩, .string ⟨#[]⟩, .string ⟨#[]⟩]) 6 88 Tryd.underlying37 hi0 hz0 hz1 hz2 (by rfl) (by decide) (.slice R.A ns.length R.c) ns.length xs (by rfl) P5.out.row ⟨W4.heap.size, 0, none⟩ 1 1 [.string x.na, .string x.tx, .bool x.out, .string x.pu, .string x.sy, .string x.no] (by rfl) (by rfl) L5.out (by intro u hu; simp at hu; rcases hu with rfl | rfl | rfl | rfl | rfl | rfl <;> rfl) (by unfold maxLen; omega) (by omega) L6.out ?_
    intro v7 W7 hown hgrow hblk
    obtain ⟨A7, c7, rfl, _⟩ := own_shapeD hown
    have P7 := Lib.hid (P5.out.grow (by decide) hown hgrow hblk)
    have q7 := P7.out.blk.cell1
    have m7 := P7.out.blk.frozen1
    clear hown hgrow hblk q5 q1 P5 L5 L6 P4
    refine hK.out _ _ ⟨.inr q7, .inl (by rfl), trivial⟩ (fun hC2 => ?_)
    clear hK K hC1
    (try simp only [Act.put, List.setIfInBounds_toArray, List.set_cons_zero, List.set_cons_succ])
    --REG (*narthex/dtd.row[narthex/api.Entity]).add:4 8 9
    refine wpAnyL_pure (i := 8) (oi := ({ dst := some 36, op := Op.nilCheck (Operand.tmp 28), type := 0, pos := "dtd.go:28", after := #[{ on := 0, ground := Ground.data }, { on := 0, ground := Ground.phase }, { on := 1, ground := Ground.phase }, { on := 2, ground := Ground.phase }, { on := 3, ground := Ground.phase }, { on := 4, ground := Ground.phase }, { on := 5, ground := Ground.phase }, { on := 6, ground := Ground.phase }, { on := 7, ground := Ground.phase }], guard := none } : Oper)) (v := ?_) rfl (by kernel_rfl) (by kernel_rfl) (by kernel_rfl) (by kernel_rfl) (fun _ _ _ h => h) (Or.inl ⟨by rfl, ?_⟩) (by assumption) (by kernel_rfl) ?_
    rotate_left 1
    · intro w hSw; clear hSw; go_simp; try with_reducible rfl
    (try simp only [Act.put, List.setIfInBounds_toArray, List.set_cons_zero, List.set_cons_succ])
    refine wpAnyL_pure (i := 9) (oi := ({ dst := some 37, op := Op.fieldAddr 87 (Operand.tmp 36) 1, type := 0, pos := "dtd.go:28", after := #[{ on := 8, ground := Ground.data }, { on := 0, ground := Ground.phase }, { on := 1, ground := Ground.phase }, { on := 2, ground := Ground.phase }, { on := 3, ground := Ground.phase }, { on := 4, ground := Ground.phase }, { on := 5, ground := Ground.phase }, { on := 6, ground := Ground.phase }, { on := 7, ground := Ground.phase }], guard := none } : Oper)) (v := ?_) rfl (by kernel_rfl) (by kernel_rfl) (by kernel_rfl) (by kernel_rfl) (fun _ _ _ h => h) (Or.inl ⟨by rfl, ?_⟩) (by assumption) (by kernel_rfl) ?_
    rotate_left 1
    · intro w hSw; clear hSw; go_simp; try with_reducible rfl
    (try simp only [Act.put, List.setIfInBounds_toArray, List.set_cons_zero, List.set_cons_succ])
    --END
    refine wpAnyL_ready (rs := [10]) (by kernel_rfl) (by simp) ?_
    refine AllReadyL.cons (o := _) rfl (fun K hK => ?_) AllReadyL.nil
    go_simp
    refine hK.out _ _ ⟨.inl (by rfl), .inl (by rfl), trivial⟩ (fun hC3 => ?_)
    clear hK K hC2
    (try simp only [Act.put, List.setIfInBounds_toArray, List.set_cons_zero, List.set_cons_succ])
    refine wpAnyL_done (by kernel_rfl) ?_ _
    clear hC3 q7 m7
    refine bodyPost_end (v := .tuple #[]) (by simp [results, Tryd.results40, go_sem]) rfl ?_
    exact P7.out.store (by decide) HH.out _ rfl
theorem Tryd.infoDDf : (Tryd.prog.info? 82).map (fun i => (i.zero, i.size, i.bytes)) = some (some (.agg #[.string ⟨#[]⟩, .int .i64 0, .slice none 0 0, .int .i64 0, .string ⟨#[]⟩]), 5, 72) := by kernel_rfl
set_option maxRecDepth 100000 in
set_option maxHeartbeats 8000000 in
theorem addDf_any (base : Nat) (R : Rm) (ns : List ByteArray) (xs : List Value) (s : ByteArray) (q : ByteArray) (ki : Int) (A : Option Addr) (n c : Nat) (mo : Int) (va : ByteArray) (w : World) (h : RowAt w base 80 82 5 R ns xs) (hs : s.size ≤ maxLen) (hl : ns.length ≤ 1048576) (hb : base ≤ w.heap.size) :
    Calls Tryd.prog 51 #[.pointer (some ⟨R.rb, 0, none⟩), .string s, .agg #[.string q, .int .i64 ki, .slice A n c, .int .i64 mo, .string va]] w (AddTold base 80 82 5 R ns xs s [.string q, .int .i64 ki, .slice A n c, .int .i64 mo, .string va] w) := by
  obtain ⟨i0, hi0, hz0, hz1, hz2⟩ := info_partsD Tryd.infoDDf
  obtain ⟨W, hW, hsW, hBW, bx⟩ := boxWorld w #[.string q, .int .i64 ki, .slice A n c, .int .i64 mo, .string va] 82
  have hW1 := h.below hBW
  have c0 := hW1.blk.cell0
  have c1 := hW1.blk.cell1
  have hlk := key_look hW1.map hW1.key s hs
  have HR := Lib.hid h
  have HB := Lib.hid hBW
  have BX := Lib.hid bx
  cases hh : hasT ns s with
  | true =>
    rw [hh] at hlk
    have HS := Lib.hid (AddTold.same (ys := [.string q, .int .i64 ki, .slice A n c, .int .i64 mo, .string va]) h hBW hh)
    clear h hBW bx hW1 hsW hh
    go_enter Tryd.func51, Tryd.ntmps51
    go_wp2
    refine bodyPost_ret (v := .tuple #[]) (by simp [results, Tryd.results51, go_sem]) rfl ?_
    exact HS.out
  | false =>
    rw [hh] at hlk
    have HH := Lib.hid hh
    obtain ⟨W3, D', hup, hm3, hk3, hg3⟩ := key_store (w := W.drew) (hW1.map) hW1.key (by have := h.few; unfold maxLen; omega) s hs hh hl
    have P3 := Lib.hid (Pend.of_row h hBW.drew hg3 hm3 hk3)
    have k1 : W.drew.cell? ⟨R.rb, 0, none⟩ = some (.map (some R.M)) := c0
    have k2 : W.drew.cell? ⟨R.rb, 1, none⟩ = some (.slice R.A ns.length R.c) := c1
    have k3 := P3.out.blk.cell0
    have k4 := P3.out.blk.cell1
    have hxne : w.heap.size ≠ R.M := by have := h.map.lt; omega
    have BX3 := Lib.hid ((hg3.block w.heap.size (by show w.heap.size < W.heap.size; omega) (fun e => hxne (Option.some.inj e))).trans (show W.drew.heap[w.heap.size]? = _ from bx))
    clear h hBW bx hW1 hh hg3 hm3 hk3 hxne
    go_enter Tryd.func51, Tryd.ntmps51
    go_upto_region 3 with (fail)
    clear hW hsW hlk
    refine wp_region_held_drew (S := fun V => V.cell? ⟨R.rb, 0, none⟩ = some (.map (some R.M)) ∧ V.cell? ⟨R.rb, 1, none⟩ = some (.slice R.A ns.length R.c)) (by kernel_rfl) ⟨k1, k2⟩ (fun hHeld => ?_)
    --TAKES (*narthex/dtd.row[narthex/atype.Def]).add:3 0..9
    refine wpAnyH_take (i := 0) (oi := ({ dst := some 18, op := Op.move (Operand.tmp 0), type := 72, pos := "dtd.go:27", after := #[], guard := none } : Oper)) (v := ?_) rfl (by kernel_rfl) (by kernel_rfl) (by kernel_rfl) (fun _ _ _ h => h) (Or.inl ⟨by rfl, ?_⟩) (by assumption) ?_
    rotate_left 1
    · intro w hSw; (try dsimp only at hSw); go_simp; try with_reducible rfl
    (try simp only [Act.put, List.setIfInBounds_toArray, List.set_cons_zero, List.set_cons_succ])
    refine wpAnyH_take (i := 1) (oi := ({ dst := some 19, op := Op.nilCheck (Operand.tmp 18), type := 0, pos := "dtd.go:27", after := #[{ on := 0, ground := Ground.data }], guard := none } : Oper)) (v := ?_) rfl (by kernel_rfl) (by kernel_rfl) (by kernel_rfl) (fun _ _ _ h => h) (Or.inl ⟨by rfl, ?_⟩) (by assumption) ?_
    rotate_left 1
    · intro w hSw; (try dsimp only at hSw); go_simp; try with_reducible rfl
    (try simp only [Act.put, List.setIfInBounds_toArray, List.set_cons_zero, List.set_cons_succ])
    refine wpAnyH_take (i := 2) (oi := ({ dst := some 20, op := Op.fieldAddr 80 (Operand.tmp 19) 0, type := 0, pos := "dtd.go:27", after := #[{ on := 1, ground := Ground.data }], guard := none } : Oper)) (v := ?_) rfl (by kernel_rfl) (by kernel_rfl) (by kernel_rfl) (fun _ _ _ h => h) (Or.inl ⟨by rfl, ?_⟩) (by assumption) ?_
    rotate_left 1
    · intro w hSw; (try dsimp only at hSw); go_simp; try with_reducible rfl
    (try simp only [Act.put, List.setIfInBounds_toArray, List.set_cons_zero, List.set_cons_succ])
    refine wpAnyH_take (i := 3) (oi := ({ dst := some 21, op := Op.load 63 (Operand.tmp 20), type := 63, pos := "dtd.go:27", after := #[{ on := 2, ground := Ground.data }], guard := none } : Oper)) (v := ?_) rfl (by kernel_rfl) (by kernel_rfl) (by kernel_rfl) (fun _ _ _ h => h) (Or.inl ⟨by rfl, ?_⟩) (by assumption) ?_
    rotate_left 1
    · intro w hSw; (try dsimp only at hSw); go_simp; try with_reducible rfl
    (try simp only [Act.put, List.setIfInBounds_toArray, List.set_cons_zero, List.set_cons_succ])
    refine wpAnyH_take (i := 4) (oi := ({ dst := some 22, op := Op.move (Operand.tmp 1), type := 9, pos := "dtd.go:27", after := #[], guard := none } : Oper)) (v := ?_) rfl (by kernel_rfl) (by kernel_rfl) (by kernel_rfl) (fun _ _ _ h => h) (Or.inl ⟨by rfl, ?_⟩) (by assumption) ?_
    rotate_left 1
    · intro w hSw; (try dsimp only at hSw); go_simp; try with_reducible rfl
    (try simp only [Act.put, List.setIfInBounds_toArray, List.set_cons_zero, List.set_cons_succ])
    refine wpAnyH_take (i := 5) (oi := ({ dst := some 23, op := Op.move (Operand.tmp 0), type := 72, pos := "dtd.go:27", after := #[], guard := none } : Oper)) (v := ?_) rfl (by kernel_rfl) (by kernel_rfl) (by kernel_rfl) (fun _ _ _ h => h) (Or.inl ⟨by rfl, ?_⟩) (by assumption) ?_
    rotate_left 1
    · intro w hSw; (try dsimp only at hSw); go_simp; try with_reducible rfl
    (try simp only [Act.put, List.setIfInBounds_toArray, List.set_cons_zero, List.set_cons_succ])
    refine wpAnyH_take (i := 6) (oi := ({ dst := some 24, op := Op.nilCheck (Operand.tmp 23), type := 0, pos := "dtd.go:27", after := #[{ on := 5, ground := Ground.data }], guard := none } : Oper)) (v := ?_) rfl (by kernel_rfl) (by kernel_rfl) (by kernel_rfl) (fun _ _ _ h => h) (Or.inl ⟨by rfl, ?_⟩) (by assumption) ?_
    rotate_left 1
    · intro w hSw; (try dsimp only at hSw); go_simp; try with_reducible rfl
    (try simp only [Act.put, List.setIfInBounds_toArray, List.set_cons_zero, List.set_cons_succ])
    refine wpAnyH_take (i := 7) (oi := ({ dst := some 25, op := Op.fieldAddr 80 (Operand.tmp 24) 1, type := 0, pos := "dtd.go:27", after := #[{ on := 6, ground := Ground.data }], guard := none } : Oper)) (v := ?_) rfl (by kernel_rfl) (by kernel_rfl) (by kernel_rfl) (fun _ _ _ h => h) (Or.inl ⟨by rfl, ?_⟩) (by assumption) ?_
    rotate_left 1
    · intro w hSw; (try dsimp only at hSw); go_simp; try with_reducible rfl
    (try simp only [Act.put, List.setIfInBounds_toArray, List.set_cons_zero, List.set_cons_succ])
    refine wpAnyH_take (i := 8) (oi := ({ dst := some 26, op := Op.load 31 (Operand.tmp 25), type := 31, pos := "dtd.go:27", after := #[{ on := 7, ground := Ground.data }], guard := none } : Oper)) (v := ?_) rfl (by kernel_rfl) (by kernel_rfl) (by kernel_rfl) (fun _ _ _ h => h) (Or.inl ⟨by rfl, ?_⟩) (by assumption) ?_
    rotate_left 1
    · intro w hSw; (try dsimp only at hSw); go_simp; try with_reducible rfl
    (try simp only [Act.put, List.setIfInBounds_toArray, List.set_cons_zero, List.set_cons_succ])
    refine wpAnyH_take (i := 9) (oi := ({ dst := some 27, op := Op.call { callee := Callee.builtin Builtin.len, args := #[Operand.tmp 26], argTypes := #[31] }, type := 3, pos := "dtd.go:27", after := #[{ on := 8, ground := Ground.data }], guard := none } : Oper)) (v := ?_) rfl (by kernel_rfl) (by kernel_rfl) (by kernel_rfl) (fun _ _ _ h => h) (Or.inl ⟨by rfl, ?_⟩) (by assumption) ?_
    rotate_left 1
    · intro w hSw; (try dsimp only at hSw); go_simp; try with_reducible rfl
    (try simp only [Act.put, List.setIfInBounds_toArray, List.set_cons_zero, List.set_cons_succ])
    --END
    refine wpAnyH_ready (rs := [10]) (by kernel_rfl) (by simp) ?_
    refine AllReadyH.cons (o := _) rfl (fun K hK => ?_) AllReadyH.nil
    go_simp
    refine hK.out _ _ ⟨k3, k4⟩ (fun hHeld2 => ?_)
    clear hK K hHeld
    (try simp only [Act.put, List.setIfInBounds_toArray, List.set_cons_zero, List.set_cons_succ])
    refine wpAnyH_done (by kernel_rfl) ?_ _
    clear hHeld2 hup k1 k2 k3 k4 c0 c1
    have P4 := Lib.hid (P3.out.below (Below.refl _ W3).drew)
    have BX4 := Lib.hid (show W3.drew.heap[w.heap.size]? = _ from BX3.out)
    have q1 := P4.out.blk.cell1
    go_upto_region 4 with (fail)
    refine wp_region_late [(10, fun V => V.cell? ⟨R.rb, 1, none⟩ = some (.slice R.A ns.length R.c)), (6, fun V => V.cell? ⟨w.heap.size, 0, none⟩ = some (.string q) ∧ V.cell? ⟨w.heap.size, 1, none⟩ = some (.int .i64 ki) ∧ V.cell? ⟨w.heap.size, 2, none⟩ = some (.slice A n c) ∧ V.cell? ⟨w.heap.size, 3, none⟩ = some (.int .i64 mo) ∧ V.cell? ⟨w.heap.size, 4, none⟩ = some (.string va))] (by kernel_rfl) ⟨.inr q1, .inr ⟨cellsOf_block BX4.out rfl, cellsOf_block BX4.out rfl, cellsOf_block BX4.out rfl, cellsOf_block BX4.out rfl, cellsOf_block BX4.out rfl⟩, trivial⟩ (fun hC0 => ?_)
    --REG (*narthex/dtd.row[narthex/atype.Def]).add:4 0 1 2 3 4@0 5@1
    refine wpAnyL_pure (i := 0) (oi := ({ dst := some 28, op := Op.move (Operand.tmp 0), type := 72, pos := "dtd.go:28", after := #[], guard := none } : Oper)) (v := ?_) rfl (by kernel_rfl) (by kernel_rfl) (by kernel_rfl) (by kernel_rfl) (fun _ _ _ h => h) (Or.inl ⟨by rfl, ?_⟩) (by assumption) (by kernel_rfl) ?_
    rotate_left 1
    · intro w hSw; clear hSw; go_simp; try with_reducible rfl
    (try simp only [Act.put, List.setIfInBounds_toArray, List.set_cons_zero, List.set_cons_succ])
    refine wpAnyL_pure (i := 1) (oi := ({ dst := some 29, op := Op.move (Operand.tmp 0), type := 72, pos := "dtd.go:28", after := #[], guard := none } : Oper)) (v := ?_) rfl (by kernel_rfl) (by kernel_rfl) (by kernel_rfl) (by kernel_rfl) (fun _ _ _ h => h) (Or.inl ⟨by rfl, ?_⟩) (by assumption) (by kernel_rfl) ?_
    rotate_left 1
    · intro w hSw; clear hSw; go_simp; try with_reducible rfl
    (try simp only [Act.put, List.setIfInBounds_toArray, List.set_cons_zero, List.set_cons_succ])
    refine wpAnyL_pure (i := 2) (oi := ({ dst := some 30, op := Op.nilCheck (Operand.tmp 29), type := 0, pos := "dtd.go:28", after := #[{ on := 1, ground := Ground.data }], guard := none } : Oper)) (v := ?_) rfl (by kernel_rfl) (by kernel_rfl) (by kernel_rfl) (by kernel_rfl) (fun _ _ _ h => h) (Or.inl ⟨by rfl, ?_⟩) (by assumption) (by kernel_rfl) ?_
    rotate_left 1
    · intro w hSw; clear hSw; go_simp; try with_reducible rfl
    (try simp only [Act.put, List.setIfInBounds_toArray, List.set_cons_zero, List.set_cons_succ])
    refine wpAnyL_pure (i := 3) (oi := ({ dst := some 31, op := Op.fieldAddr 80 (Operand.tmp 30) 1, type := 0, pos := "dtd.go:28", after := #[{ on := 2, ground := Ground.data }], guard := none } : Oper)) (v := ?_) rfl (by kernel_rfl) (by kernel_rfl) (by kernel_rfl) (by kernel_rfl) (fun _ _ _ h => h) (Or.inl ⟨by rfl, ?_⟩) (by assumption) (by kernel_rfl) ?_
    rotate_left 1
    · intro w hSw; clear hSw; go_simp; try with_reducible rfl
    (try simp only [Act.put, List.setIfInBounds_toArray, List.set_cons_zero, List.set_cons_succ])
    refine wpAnyL_take (i := 4) 0 (oi := ({ dst := some 32, op := Op.load 31 (Operand.tmp 31), type := 31, pos := "dtd.go:28", after := #[{ on := 3, ground := Ground.data }], guard := none } : Oper)) (v := ?_) rfl (by kernel_rfl) (by kernel_rfl) (by kernel_rfl) rfl (by kernel_rfl) (by kernel_rfl) (by kernel_rfl) (fun _ _ _ h => h) (Or.inl ⟨by rfl, ?_⟩) (by assumption) (by kernel_rfl) ?_
    rotate_left 1
    · intro w hSw; (try dsimp only at hSw); go_simp; try with_reducible rfl
    (try simp only [Act.put, List.setIfInBounds_toArray, List.set_cons_zero, List.set_cons_succ])
    refine wpAnyL_take (i := 5) 1 (oi := ({ dst := some 33, op := Op.load 82 (Operand.tmp 5), type := 82, pos := "dtd.go:28", after := #[], guard := none } : Oper)) (v := ?_) rfl (by kernel_rfl) (by kernel_rfl) (by kernel_rfl) rfl (by kernel_rfl) (by kernel_rfl) (by kernel_rfl) (fun _ _ _ h => h) (Or.inl ⟨by rfl, ?_⟩) (by assumption) (by kernel_rfl) ?_
    rotate_left 1
    · intro w hSw; (try dsimp only at hSw); go_simp; try with_reducible rfl
    (try simp only [Act.put, List.setIfInBounds_toArray, List.set_cons_zero, List.set_cons_succ])
    --END
    generalize W3.drew = W4 at *
    have P5 := Lib.hid (P4.out.below ((Below.refl _ W4).alloc (Nat.le_refl _) (.cells #[.string q, .int .i64 ki, .slice A n c, .int .i64 mo, .string va] 82)))
    have L5 := Lib.hid (litCells W4 [.string q, .int .i64 ki, .slice A n c, .int .i64 mo, .string va] 82)
    have L6 := Lib.hid (show base ≤ (W4.alloc (.cells #[.string q, .int .i64 ki, .slice A n c, .int .i64 mo, .string va] 82)).heap.size from Nat.le_trans hb (Nat.le_trans P4.out.keep.size (by simp)))
    have q5 := P5.out.blk.cell1
    refine wpAnyL_ready (rs := [6]) (by kernel_rfl) (by simp) ?_
    refine AllReadyL.cons (o := _) rfl (fun K hK => ?_) AllReadyL.nil
    go_simp
    refine hK.out _ _ ⟨.inr q5, .inl (by rfl), trivial⟩ (fun hC1 => ?_)
    clear hK K hC0
    (try simp only [Act.put, List.setIfInBounds_toArray, List.set_cons_zero, List.set_cons_succ])
    refine wpAnyL_ready (rs := [7]) (by kernel_rfl) (by simp) ?_
    refine AllReadyL.cons (o := _) rfl (fun K hK => ?_) AllReadyL.nil
    refine stepRow (by rfl) (.tmp 32) (.tmp 34) 31 (by rfl) base 82 i0 (.agg #[.string ⟨#[]⟩, .int .i64 0, .slice none 0 0, .int .i64 0, .string ⟨#[]⟩]) 5 72 Tryd.underlying31 hi0 hz0 hz1 hz2 (by rfl) (by decide) (.slice R.A ns.length R.c) ns.length xs (by rfl) P5.out.row ⟨W4.heap.size, 0, none⟩ 1 1 [.string q, .int .i64 ki, .slice A n c, .int .i64 mo, .string va] (by rfl) (by rfl) L5.out (by intro u hu; simp at hu; rcases hu with rfl | rfl | rfl | rfl | rfl <;> rfl) (by unfold maxLen; omega) (by omega) L6.out ?_
    intro v7 W7 hown hgrow hblk
    obtain ⟨A7, c7, rfl, _⟩ := own_shapeD hown
    have P7 := Lib.hid (P5.out.grow (by decide) hown hgrow hblk)
    have q7 := P7.out.blk.cell1
    have m7 := P7.out.blk.frozen1
    clear hown hgrow hblk q5 q1 P5 L5 L6 P4
    refine hK.out _ _ ⟨.inr q7, .inl (by rfl), trivial⟩ (fun hC2 => ?_)
    clear hK K hC1
    (try simp only [Act.put, List.setIfInBounds_toArray, List.set_cons_zero, List.set_cons_succ])
    --REG (*narthex/dtd.row[narthex/atype.Def]).add:4 8 9
    refine wpAnyL_pure (i := 8) (oi := ({ dst := some 36, op := Op.nilCheck (Operand.tmp 28), type := 0, pos := "dtd.go:28", after := #[{ on := 0, ground := Ground.data }, { on := 0, ground := Ground.phase }, { on := 1, ground := Ground.phase }, { on := 2, ground := Ground.phase }, { on := 3, ground := Ground.phase }, { on := 4, ground := Ground.phase }, { on := 5, ground := Ground.phase }, { on := 6, ground := Ground.phase }, { on := 7, ground := Ground.phase }], guard := none } : Oper)) (v := ?_) rfl (by kernel_rfl) (by kernel_rfl) (by kernel_rfl) (by kernel_rfl) (fun _ _ _ h => h) (Or.inl ⟨by rfl, ?_⟩) (by assumption) (by kernel_rfl) ?_
    rotate_left 1
    · intro w hSw; clear hSw; go_simp; try with_reducible rfl
    (try simp only [Act.put, List.setIfInBounds_toArray, List.set_cons_zero, List.set_cons_succ])
    refine wpAnyL_pure (i := 9) (oi := ({ dst := some 37, op := Op.fieldAddr 80 (Operand.tmp 36) 1, type := 0, pos := "dtd.go:28", after := #[{ on := 8, ground := Ground.data }, { on := 0, ground := Ground.phase }, { on := 1, ground := Ground.phase }, { on := 2, ground := Ground.phase }, { on := 3, ground := Ground.phase }, { on := 4, ground := Ground.phase }, { on := 5, ground := Ground.phase }, { on := 6, ground := Ground.phase }, { on := 7, ground := Ground.phase }], guard := none } : Oper)) (v := ?_) rfl (by kernel_rfl) (by kernel_rfl) (by kernel_rfl) (by kernel_rfl) (fun _ _ _ h => h) (Or.inl ⟨by rfl, ?_⟩) (by assumption) (by kernel_rfl) ?_
    rotate_left 1
    · intro w hSw; clear hSw; go_simp; try with_reducible rfl
    (try simp only [Act.put, List.setIfInBounds_toArray, List.set_cons_zero, List.set_cons_succ])
    --END
    refine wpAnyL_ready (rs := [10]) (by kernel_rfl) (by simp) ?_
    refine AllReadyL.cons (o := _) rfl (fun K hK => ?_) AllReadyL.nil
    go_simp
    refine hK.out _ _ ⟨.inl (by rfl), .inl (by rfl), trivial⟩ (fun hC3 => ?_)
    clear hK K hC2
    (try simp only [Act.put, List.setIfInBounds_toArray, List.set_cons_zero, List.set_cons_succ])
    refine wpAnyL_done (by kernel_rfl) ?_ _
    clear hC3 q7 m7
    refine bodyPost_end (v := .tuple #[]) (by simp [results, Tryd.results51, go_sem]) rfl ?_
    exact P7.out.store (by decide) HH.out _ rfl
end Go.Proofs.YtapjmfgpdkghlaaDoor
