/- The contracts of narthexlaw34's Give, Fill, Great, same. Conditions: at most 2^20 of each. -/
import Derived.Test.YtbamcpnmabpacaaScAll
import Derived.Test.YtbamcpnmabpacaaScRAll
import Derived.Deep.QuietTactic
import Derived.Deep.RegionHeld3
namespace Go.Proofs.Ytbamcpnmabpacaa
open Go.RowKit
set_option linter.unusedVariables false
set_option linter.unusedSimpArgs false
def GiveS (l : List Bd) (w : World) (e : Ending) (w' : World) : Prop := ∃ R c, e = .returned (.slice R l.length c) ∧ w'.ownsRow w.heap.size 40 2 (.slice R l.length c) l.length (bdCells l) ∧ (R = none → c = 0) ∧ Below w.heap.size w w'
set_option maxRecDepth 100000 in
set_option maxHeartbeats 2000000 in
theorem give_any (A : Option Addr) (c : Nat) (l : List Bd) (w : World) (h : BdsAt w A l.length l) (hn : l.length ≤ 1048576) : Calls Try.prog 16 #[.slice A l.length c] w (GiveS l w) := by
  obtain ⟨j0, hj0, hy0, hy1, hy2⟩ := info_partsS Try.infoBd
  have H := Lib.hid h
  clear h
  go_enter Try.func16, Try.ntmps16
  go_wp2
  go_loopw [3, 4] (fun v3 v4 wr => ∃ i : Nat, i ≤ l.length ∧ v4 = .int .i64 i ∧ Hid (wr.ownsRow w.heap.size 40 2 v3 (l.take i).length (bdCells (l.take i))) ∧ Hid (Below w.heap.size w wr)) (fun _ v4 _ => l.length - (intOf v4).toNat)
  case atStart => exact ⟨0, Nat.zero_le _, rfl, Lib.hid (World.ownsRow_nil _ _ _ _), Lib.hid (Below.refl _ _)⟩
  case round =>
    obtain ⟨i, hi, rfl, HO, HB⟩ := hrel
    obtain ⟨A3, c3, rfl, -, -, -⟩ := ownS_shape HO.out
    by_cases hlt : i < l.length
    · obtain ⟨a, y, rfl, hy, hat⟩ := H.out.2 i hlt
      obtain ⟨hyb, y0, y1⟩ := hat.below HB.out hat.1
      have b0 : (0 : Int) ≤ (i : Int) := by omega
      have b1 : (i : Int) < (l.length : Int) := by omega
      have HT : Hid (l.take (i + 1) = l.take i ++ [y]) := Lib.hid (by rw [List.take_add_one, hy]; rfl)
      have hpl : (l.take i).length ≤ 1048576 := by rw [List.length_take]; omega
      have HO0 := Lib.hid (ownS_below HO.out (below_drewS _ wr))
      have HBD := Lib.hid (HB.out.trans (below_drewS _ wr))
      have z0 : wr.drew.cell? (a.add (i * 2)) = some (.string y.p) := y0
      have z1 : wr.drew.cell? ⟨(a.add (i * 2)).block, (a.add (i * 2)).off + 1, none⟩ = some (.string y.s) := y1
      have hyb2 : (a.add (i * 2)).block < w.heap.size := hat.1
      have LN := Lib.hid (bdCells_len (l.take i))
      have HAT := Lib.hid hat
      clear hy hat
      generalize l.take i = ml at *
      go_wp2_with fail
      refine wp_region_held_drew (S := fun w' => w'.cell? (a.add (i * 2)) = some (.string y.p) ∧ w'.cell? ⟨(a.add (i * 2)).block, (a.add (i * 2)).off + 1, none⟩ = some (.string y.s)) (by kernel_rfl) ⟨z0, z1⟩ (fun hHeld => ?_)
      generalize wr.drew = V0 at *
      --TAKES narthex/narthexlaw34.Give:5 0..11
      refine wpAnyH_take (i := 0) (oi := ({ dst := some 11, op := Op.move (Operand.tmp 3), type := 32, pos := "law.go:25", after := #[], guard := none } : Oper)) (v := ?_) rfl (by kernel_rfl) (by kernel_rfl) (by kernel_rfl) (fun _ _ _ h => h) (Or.inl ⟨by rfl, ?_⟩) (by assumption) ?_
      rotate_left 1
      · intro w hSw; (try dsimp only at hSw); go_simp; try with_reducible rfl
      (try simp only [Act.put, List.setIfInBounds_toArray, List.set_cons_zero, List.set_cons_succ])
      refine wpAnyH_take (i := 1) (oi := ({ dst := some 12, op := Op.move (Operand.tmp 0), type := 34, pos := "law.go:25", after := #[], guard := none } : Oper)) (v := ?_) rfl (by kernel_rfl) (by kernel_rfl) (by kernel_rfl) (fun _ _ _ h => h) (Or.inl ⟨by rfl, ?_⟩) (by assumption) ?_
      rotate_left 1
      · intro w hSw; (try dsimp only at hSw); go_simp; try with_reducible rfl
      (try simp only [Act.put, List.setIfInBounds_toArray, List.set_cons_zero, List.set_cons_succ])
      refine wpAnyH_take (i := 2) (oi := ({ dst := some 13, op := Op.move (Operand.tmp 4), type := 3, pos := "law.go:25", after := #[], guard := none } : Oper)) (v := ?_) rfl (by kernel_rfl) (by kernel_rfl) (by kernel_rfl) (fun _ _ _ h => h) (Or.inl ⟨by rfl, ?_⟩) (by assumption) ?_
      rotate_left 1
      · intro w hSw; (try dsimp only at hSw); go_simp; try with_reducible rfl
      (try simp only [Act.put, List.setIfInBounds_toArray, List.set_cons_zero, List.set_cons_succ])
      refine wpAnyH_take (i := 3) (oi := ({ dst := some 14, op := Op.indexAddr 34 (Operand.tmp 12) (Operand.tmp 13), type := 0, pos := "law.go:25", after := #[{ on := 1, ground := Ground.data }, { on := 2, ground := Ground.data }], guard := none } : Oper)) (v := ?_) rfl (by kernel_rfl) (by kernel_rfl) (by kernel_rfl) (fun _ _ _ h => h) (Or.inl ⟨by rfl, ?_⟩) (by assumption) ?_
      rotate_left 1
      · intro w hSw; (try dsimp only at hSw); go_simp; try with_reducible rfl
      (try simp only [Act.put, List.setIfInBounds_toArray, List.set_cons_zero, List.set_cons_succ])
      refine wpAnyH_take (i := 4) (oi := ({ dst := some 15, op := Op.fieldAddr 38 (Operand.tmp 14) 0, type := 0, pos := "law.go:25", after := #[{ on := 3, ground := Ground.data }], guard := none } : Oper)) (v := ?_) rfl (by kernel_rfl) (by kernel_rfl) (by kernel_rfl) (fun _ _ _ h => h) (Or.inl ⟨by rfl, ?_⟩) (by assumption) ?_
      rotate_left 1
      · intro w hSw; (try dsimp only at hSw); go_simp; try with_reducible rfl
      (try simp only [Act.put, List.setIfInBounds_toArray, List.set_cons_zero, List.set_cons_succ])
      refine wpAnyH_take (i := 5) (oi := ({ dst := some 16, op := Op.load 9 (Operand.tmp 15), type := 9, pos := "law.go:25", after := #[{ on := 4, ground := Ground.data }], guard := none } : Oper)) (v := ?_) rfl (by kernel_rfl) (by kernel_rfl) (by kernel_rfl) (fun _ _ _ h => h) (Or.inl ⟨by rfl, ?_⟩) (by assumption) ?_
      rotate_left 1
      · intro w hSw; (try dsimp only at hSw); go_simp; try with_reducible rfl
      (try simp only [Act.put, List.setIfInBounds_toArray, List.set_cons_zero, List.set_cons_succ])
      refine wpAnyH_take (i := 6) (oi := ({ dst := some 17, op := Op.move (Operand.tmp 0), type := 34, pos := "law.go:25", after := #[], guard := none } : Oper)) (v := ?_) rfl (by kernel_rfl) (by kernel_rfl) (by kernel_rfl) (fun _ _ _ h => h) (Or.inl ⟨by rfl, ?_⟩) (by assumption) ?_
      rotate_left 1
      · intro w hSw; (try dsimp only at hSw); go_simp; try with_reducible rfl
      (try simp only [Act.put, List.setIfInBounds_toArray, List.set_cons_zero, List.set_cons_succ])
      refine wpAnyH_take (i := 7) (oi := ({ dst := some 18, op := Op.move (Operand.tmp 4), type := 3, pos := "law.go:25", after := #[], guard := none } : Oper)) (v := ?_) rfl (by kernel_rfl) (by kernel_rfl) (by kernel_rfl) (fun _ _ _ h => h) (Or.inl ⟨by rfl, ?_⟩) (by assumption) ?_
      rotate_left 1
      · intro w hSw; (try dsimp only at hSw); go_simp; try with_reducible rfl
      (try simp only [Act.put, List.setIfInBounds_toArray, List.set_cons_zero, List.set_cons_succ])
      refine wpAnyH_take (i := 8) (oi := ({ dst := some 19, op := Op.indexAddr 34 (Operand.tmp 17) (Operand.tmp 18), type := 0, pos := "law.go:25", after := #[{ on := 6, ground := Ground.data }, { on := 7, ground := Ground.data }], guard := none } : Oper)) (v := ?_) rfl (by kernel_rfl) (by kernel_rfl) (by kernel_rfl) (fun _ _ _ h => h) (Or.inl ⟨by rfl, ?_⟩) (by assumption) ?_
      rotate_left 1
      · intro w hSw; (try dsimp only at hSw); go_simp; try with_reducible rfl
      (try simp only [Act.put, List.setIfInBounds_toArray, List.set_cons_zero, List.set_cons_succ])
      refine wpAnyH_take (i := 9) (oi := ({ dst := some 20, op := Op.fieldAddr 38 (Operand.tmp 19) 1, type := 0, pos := "law.go:25", after := #[{ on := 8, ground := Ground.data }], guard := none } : Oper)) (v := ?_) rfl (by kernel_rfl) (by kernel_rfl) (by kernel_rfl) (fun _ _ _ h => h) (Or.inl ⟨by rfl, ?_⟩) (by assumption) ?_
      rotate_left 1
      · intro w hSw; (try dsimp only at hSw); go_simp; try with_reducible rfl
      (try simp only [Act.put, List.setIfInBounds_toArray, List.set_cons_zero, List.set_cons_succ])
      refine wpAnyH_take (i := 10) (oi := ({ dst := some 21, op := Op.load 9 (Operand.tmp 20), type := 9, pos := "law.go:25", after := #[{ on := 9, ground := Ground.data }], guard := none } : Oper)) (v := ?_) rfl (by kernel_rfl) (by kernel_rfl) (by kernel_rfl) (fun _ _ _ h => h) (Or.inl ⟨by rfl, ?_⟩) (by assumption) ?_
      rotate_left 1
      · intro w hSw; (try dsimp only at hSw); go_simp; try with_reducible rfl
      (try simp only [Act.put, List.setIfInBounds_toArray, List.set_cons_zero, List.set_cons_succ])
      refine wpAnyH_take (i := 11) (oi := ({ dst := some 22, op := Op.build 40 #[(0, Operand.tmp 16), (1, Operand.tmp 21)], type := 40, pos := "law.go:25", after := #[{ on := 5, ground := Ground.data }, { on := 10, ground := Ground.data }], guard := none } : Oper)) (v := ?_) rfl (by kernel_rfl) (by kernel_rfl) (by kernel_rfl) (fun _ _ _ h => h) (Or.inl ⟨by rfl, ?_⟩) (by assumption) ?_
      rotate_left 1
      · intro w hSw; (try dsimp only at hSw); go_simp; try with_reducible rfl
      (try simp only [Act.put, List.setIfInBounds_toArray, List.set_cons_zero, List.set_cons_succ])
      --END
      refine wpAnyH_ready (rs := [12]) (by kernel_rfl) (by simp) ?_
      refine AllReadyH.cons (o := _) rfl (fun K hK => ?_) AllReadyH.nil
      go_simp
      have hb1 : Below V0.heap.size V0 (V0.alloc (.cells #[.string y.p, .string y.s] 40)) := (Below.refl _ _).alloc (Nat.le_refl _) _
      have HO1 := Lib.hid (HO0.out.alloc (.cells #[.string y.p, .string y.s] 40))
      have HX1 := Lib.hid (twoS V0 (.string y.p) (.string y.s) 40)
      have HB1 := Lib.hid (HBD.out.alloc HBD.out.size (.cells #[.string y.p, .string y.s] 40))
      have q0 := (hb1.cell (World.block_lt_of_cell? _ _ z0)).trans z0
      have q1 := (hb1.cell (World.block_lt_of_cell? _ _ z1)).trans z1
      clear hb1
      generalize V0.alloc (.cells #[.string y.p, .string y.s] 40) = V1 at *
      refine hK.out _ _ ⟨q0, q1⟩ (fun hHeld => ?_)
      clear hK K
      (try simp only [Act.put, List.setIfInBounds_toArray, List.set_cons_zero, List.set_cons_succ])
      refine wpAnyH_ready (rs := [13]) (by kernel_rfl) (by simp) ?_
      refine AllReadyH.cons (o := _) rfl (fun K hK => ?_) AllReadyH.nil
      refine stepS (by rfl) (.tmp 11) (.tmp 23) 32 (by rfl) w.heap.size 40 j0 (.agg #[.string ByteArray.empty, .string ByteArray.empty]) 2 32 Try.underlying32 hj0 hy0 hy1 hy2 (by rfl) (by decide) _ _ _ (by rfl) HO1.out _ 1 1 [.string y.p, .string y.s] (by rfl) rfl HX1.out (by intro u hu; simp at hu; rcases hu with rfl | rfl <;> rfl) (by unfold maxLen; omega) (by omega) HB1.out.size ?_
      intro v6 w6 ho6 hg6 _
      have HB6 := Lib.hid (HB1.out.grown hg6 HB1.out.size (fun g hg => (ownS_blk HO1.out hg).2.1))
      have HO6 : Hid (w6.ownsRow w.heap.size 40 2 v6 (l.take (i + 1)).length (bdCells (l.take (i + 1)))) := Lib.hid (by rw [HT.out, bdCells_append, List.length_append]; exact ho6)
      refine hK.out _ _ ⟨(HB6.out.cell (p := a.add (i * 2)) hyb2).trans HAT.out.2.1, (HB6.out.cell (p := ⟨(a.add (i * 2)).block, (a.add (i * 2)).off + 1, none⟩) hyb2).trans HAT.out.2.2⟩ (fun hHeld => ?_)
      clear hK K
      (try simp only [Act.put, List.setIfInBounds_toArray, List.set_cons_zero, List.set_cons_succ])
      --TAKES narthex/narthexlaw34.Give:5 14
      refine wpAnyH_take (i := 14) (oi := ({ dst := some 3, op := Op.assign (Operand.tmp 24), type := 32, pos := "law.go:25", after := #[{ on := 13, ground := Ground.data }, { on := 13, ground := Ground.chain }, { on := 0, ground := Ground.phase }, { on := 1, ground := Ground.phase }, { on := 2, ground := Ground.phase }, { on := 3, ground := Ground.phase }, { on := 4, ground := Ground.phase }, { on := 5, ground := Ground.phase }, { on := 6, ground := Ground.phase }, { on := 7, ground := Ground.phase }, { on := 8, ground := Ground.phase }, { on := 9, ground := Ground.phase }, { on := 10, ground := Ground.phase }, { on := 11, ground := Ground.phase }, { on := 12, ground := Ground.phase }, { on := 13, ground := Ground.phase }], guard := none } : Oper)) (v := ?_) rfl (by kernel_rfl) (by kernel_rfl) (by kernel_rfl) (fun _ _ _ h => h) (Or.inl ⟨by rfl, ?_⟩) (by assumption) ?_
      rotate_left 1
      · intro w hSw; (try dsimp only at hSw); go_simp; try with_reducible rfl
      (try simp only [Act.put, List.setIfInBounds_toArray, List.set_cons_zero, List.set_cons_succ])
      --END
      refine wpAnyH_done (by kernel_rfl) ?_ _
      clear hHeld ho6 hg6
      go_wp2
      go_roundw
      case rel => exact ⟨i + 1, by omega, by go_num, HO6, HB6⟩
      case measure => simp [intOf]; omega
    · obtain rfl : i = l.length := by omega
      have b1 : ¬ (l.length : Int) < (l.length : Int) := by omega
      have HO2 := HO.out
      rw [List.take_length] at HO2
      rw [List.take_length]
      have HO2 := Lib.hid HO2
      go_wp2
      go_ret
      obtain ⟨A9, c9, e9, -, -, h9⟩ := ownS_shape HO2.out
      injection e9 with e9a e9b e9c
      subst e9a e9c
      exact ⟨A3, c3, rfl, HO2.out, h9, HB.out⟩
end Go.Proofs.Ytbamcpnmabpacaa
