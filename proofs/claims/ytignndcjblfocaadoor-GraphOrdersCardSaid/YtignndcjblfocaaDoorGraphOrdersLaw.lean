/- The law GraphOrders, walked (printed by gen-graphorders.py). Conditions: the tables of chars and of utf hold what the text gives them. -/
import Derived.Test.YtignndcjblfocaaDoorGraphBehind
import Derived.Test.YtignndcjblfocaaDoorGraphLoop
import Derived.Test.YtignndcjblfocaaDoorGraphRefs
namespace Go.Proofs.YtignndcjblfocaaDoor
set_option linter.unusedVariables false
set_option linter.unusedSimpArgs false
open Go.RowKit Go.Proofs.YtignndcjblfocaaDoor.GraphPlain
theorem intsB' (A : Option Addr) (n c : Nat) (A' : Option Addr) (c' : Nat) (l : List Nat) (b1 b2 : Nat) (w1 w : World) (hn : n = l.length) (hl : w1.ownsRow b1 3 1 (.slice A n c) n (natCells l)) (hb : Below w1.heap.size w1 w) (hm : w.ownsRow b2 3 1 (.slice A' n c') n (natCells l)) (hnn : n ≤ 9223372036854775807) :
    Calls Tryd.prog 13 #[.slice A n c, .slice A' n c'] w (fun e w' => e = .returned (.bool true) ∧ Below w.heap.size w w') :=
  intsYes A n c (l.map Int.ofNat) A' n c' w ((natInts hn hl).below hb) (natInts hn hm) hnn
theorem natG_total {R : List (List Int)} : total (natG R) = sumL R := by
  unfold total natG sumL
  rw [List.map_map]
  congr 1
  apply List.map_congr_left
  intro r _
  simp
set_option maxRecDepth 100000 in
set_option maxHeartbeats 4000000 in
theorem orders_great (An : Option Addr) (nn cn : Nat) (At : Option Addr) (nt ct : Nat) (R : List (List Int)) (w : World) (hg : GrAt w At nt R) (hs : ∀ r ∈ R, r.length ≤ 17592186044416) (hnn : nn ≤ maxLen) (hnt : nt ≤ maxLen) (hf : FormsAt w) (ht : Tabs w) (hgr : greatN nn nt R = true) :
    Calls Tryd.prog 5 #[grV An nn cn At nt ct] w fun e w' => e = .returned (.bool true) ∧ Below w.heap.size w w' := by
  unfold maxLen at hnn hnt
  obtain ⟨W, hW, hB, hz, c0, c1⟩ := grBox w An nn cn At nt ct 30
  have C := rgreat_any An nn cn At nt ct R W (hg.below hB) hs hnt hnn
  rw [hgr] at C
  have C := Lib.hid C
  have HF := Lib.hid (hf.below hB hf.size)
  have HT := Lib.hid (ht.below hB ht.size)
  have HB := Lib.hid hB
  clear hg hs hf ht hB hgr
  unfold grV at C ⊢
  go_enter Tryd.func5, Tryd.ntmps5
  go_wp2_with fail
  refine C.out.mono ?_
  rintro e w1 ⟨rfl, hB1⟩
  have L := Lib.hid (live19_any w1 (HF.out.below hB1 HF.out.size) (HT.out.below hB1 HT.out.size))
  have HB1 := Lib.hid (HB.out.trans (hB1.mono HB.out.size))
  clear hB1 HF HT C HB
  go_wp2_with fail
  refine L.out.mono ?_
  rintro e w2 ⟨rfl, hB2⟩
  have HB2 := Lib.hid (HB1.out.trans (hB2.mono HB1.out.size))
  clear hB2
  go_wp2
  go_ret
  exact ⟨rfl, HB2.out⟩
set_option maxRecDepth 100000 in
set_option maxHeartbeats 8000000 in
theorem orders_bad (An : Option Addr) (nn cn : Nat) (At : Option Addr) (nt ct : Nat) (R : List (List Int)) (w : World) (hg : GrAt w At nt R) (hnil : GrNil w At nt) (hf : FormsAt w) (ht : Tabs w) (hgr : greatN nn nt R = false) (hr : rightN nn R = false) :
    Calls Tryd.prog 5 #[grV An nn cn At nt ct] w fun e w' => e = .returned (.bool true) ∧ Below w.heap.size w w' := by
  have HRT := Lib.hid hr
  clear hr
  obtain ⟨W, hW, hB, hz, c0, c1⟩ := grBox w An nn cn At nt ct 30
  obtain ⟨hs1, hs2, hs3⟩ := greatN_no hg.1 hgr
  have hfew := rows_few hs3
  have C := rgreat_any An nn cn At nt ct R W (hg.below hB) (fun r hr => Nat.le_trans (hfew r hr) (by omega)) (by omega) (by omega)
  rw [hgr] at C
  have C := Lib.hid C
  have HF := Lib.hid (hf.below hB hf.size)
  have HT := Lib.hid (ht.below hB ht.size)
  have HB := Lib.hid hB
  have HG := Lib.hid (hg.below hB)
  have HNL := Lib.hid (hnil.below hg hB)
  have HL := Lib.hid (fun r hr => Nat.le_trans (hfew r hr) (show 100 ≤ 9223372036854775806 by omega))
  clear hg hf ht hB hgr hfew hnil
  unfold grV at C ⊢
  go_enter Tryd.func5, Tryd.ntmps5
  go_wp2_with fail
  refine C.out.mono ?_
  rintro e w1 ⟨rfl, hB1⟩
  have d0 := (hB1.cell (p := ⟨w.heap.size, 0, none⟩) (by show w.heap.size < _; omega)).trans c0
  have d1 := (hB1.cell (p := ⟨w.heap.size, 1, none⟩) (by show w.heap.size < _; omega)).trans c1
  have HG1 := Lib.hid (HG.out.below hB1)
  have HNL1 := Lib.hid (HNL.out.below HG.out hB1)
  have HF1 := Lib.hid (HF.out.below hB1 HF.out.size)
  have HT1 := Lib.hid (HT.out.below hB1 HT.out.size)
  have HB1 := Lib.hid (HB.out.trans (hB1.mono HB.out.size))
  have hz1 := hB1.size
  clear hB1 HF HT C HB HG HNL c0 c1
  obtain ⟨W2, hW2, hB2, hz2, c0, c1⟩ := grBox w1 An nn cn At nt ct 28
  have q0 := (hB2.cell (p := ⟨w.heap.size, 0, none⟩) (by show w.heap.size < _; omega)).trans d0
  have q1 := (hB2.cell (p := ⟨w.heap.size, 1, none⟩) (by show w.heap.size < _; omega)).trans d1
  have HG2 := Lib.hid (HG1.out.below hB2)
  have HNL2 := Lib.hid (HNL1.out.below HG1.out hB2)
  have HF2 := Lib.hid (HF1.out.below hB2 HF1.out.size)
  have HT2 := Lib.hid (HT1.out.below hB2 HT1.out.size)
  have HB2 := Lib.hid (HB1.out.trans (hB2.mono HB1.out.size))
  clear hB2 HG1 HNL1 HF1 HT1 HB1
  have C := loop_bad An nn cn At nt ct R W2 HG2.out HL.out (by omega) HRT.out
  have C := Lib.hid C
  unfold grV at C
  go_wp2_with fail
  refine C.out.mono ?_
  rintro e w3 ⟨rfl, hB⟩
  clear C
  have c0' := (hB.cell (p := ⟨w1.heap.size, 0, none⟩) (by show w1.heap.size < _; omega)).trans c0
  have c1' := (hB.cell (p := ⟨w1.heap.size, 1, none⟩) (by show w1.heap.size < _; omega)).trans c1
  have q0' := (hB.cell (p := ⟨w.heap.size, 0, none⟩) (by show w.heap.size < _; omega)).trans q0
  have q1' := (hB.cell (p := ⟨w.heap.size, 1, none⟩) (by show w.heap.size < _; omega)).trans q1
  have HG3 := Lib.hid (HG2.out.below hB)
  have HNL3 := Lib.hid (HNL2.out.below HG2.out hB)
  have HF3 := Lib.hid (HF2.out.below hB HF2.out.size)
  have HT3 := Lib.hid (HT2.out.below hB HT2.out.size)
  have HB3 := Lib.hid (HB2.out.trans (hB.mono HB2.out.size))
  have hz3 := hB.size
  clear hB HG2 HNL2 HF2 HT2 HB2 c0 c1 q0 q1
  have c0 := c0'
  have c1 := c1'
  have q0 := q0'
  have q1 := q1'
  clear c0' c1' q0' q1'
  have C := order_bad An nn cn At nt ct R w3 HG3.out HL.out (by omega) HRT.out
  have C := Lib.hid C
  unfold grV at C
  go_wp2_with fail
  refine C.out.mono ?_
  rintro e w4 ⟨rfl, hB⟩
  clear C
  have c0' := (hB.cell (p := ⟨w1.heap.size, 0, none⟩) (by show w1.heap.size < _; omega)).trans c0
  have c1' := (hB.cell (p := ⟨w1.heap.size, 1, none⟩) (by show w1.heap.size < _; omega)).trans c1
  have q0' := (hB.cell (p := ⟨w.heap.size, 0, none⟩) (by show w.heap.size < _; omega)).trans q0
  have q1' := (hB.cell (p := ⟨w.heap.size, 1, none⟩) (by show w.heap.size < _; omega)).trans q1
  have HG4 := Lib.hid (HG3.out.below hB)
  have HNL4 := Lib.hid (HNL3.out.below HG3.out hB)
  have HF4 := Lib.hid (HF3.out.below hB HF3.out.size)
  have HT4 := Lib.hid (HT3.out.below hB HT3.out.size)
  have HB4 := Lib.hid (HB3.out.trans (hB.mono HB3.out.size))
  have hz4 := hB.size
  clear hB HG3 HNL3 HF3 HT3 HB3 c0 c1 q0 q1
  have c0 := c0'
  have c1 := c1'
  have q0 := q0'
  have q1 := q1'
  clear c0' c1' q0' q1'
  have C := depths_bad An nn cn At nt ct R w4 HG4.out HL.out (by omega) HRT.out
  have C := Lib.hid C
  unfold grV at C
  go_wp2_with fail
  refine C.out.mono ?_
  rintro e w5 ⟨rfl, hB⟩
  clear C
  have c0' := (hB.cell (p := ⟨w1.heap.size, 0, none⟩) (by show w1.heap.size < _; omega)).trans c0
  have c1' := (hB.cell (p := ⟨w1.heap.size, 1, none⟩) (by show w1.heap.size < _; omega)).trans c1
  have q0' := (hB.cell (p := ⟨w.heap.size, 0, none⟩) (by show w.heap.size < _; omega)).trans q0
  have q1' := (hB.cell (p := ⟨w.heap.size, 1, none⟩) (by show w.heap.size < _; omega)).trans q1
  have HG5 := Lib.hid (HG4.out.below hB)
  have HNL5 := Lib.hid (HNL4.out.below HG4.out hB)
  have HF5 := Lib.hid (HF4.out.below hB HF4.out.size)
  have HT5 := Lib.hid (HT4.out.below hB HT4.out.size)
  have HB5 := Lib.hid (HB4.out.trans (hB.mono HB4.out.size))
  have hz5 := hB.size
  clear hB HG4 HNL4 HF4 HT4 HB4 c0 c1 q0 q1
  have c0 := c0'
  have c1 := c1'
  have q0 := q0'
  have q1 := q1'
  clear c0' c1' q0' q1'
  go_wp2_with fail
  have hBd : Below w5.heap.size w5 w5.drew := ⟨rfl, rfl, rfl, Nat.le_refl _, fun _ _ => rfl⟩
  have C := right_any An nn cn At nt ct R w5.drew (HG5.out.below hBd) HL.out (by omega)
  rw [HRT.out] at C
  have C := Lib.hid C
  unfold grV at C
  refine wp_region_late [(1, fun w' => w'.cell? ⟨w1.heap.size, 0, none⟩ = some (.slice An nn cn) ∧ w'.cell? ⟨w1.heap.size, 1, none⟩ = some (.slice At nt ct)), (3, fun w' => w'.cell? ⟨w.heap.size, 0, none⟩ = some (.slice An nn cn) ∧ w'.cell? ⟨w.heap.size, 1, none⟩ = some (.slice At nt ct))] (by kernel_rfl) ⟨.inr ⟨c0, c1⟩, .inr ⟨q0, q1⟩, trivial⟩ (fun hC0 => ?_)
  refine wpAnyL_take (i := 0) 0 (oi := ({ dst := some 34, op := Op.load 28 (Operand.tmp 3), type := 28, pos := "law.go:46", after := #[], guard := none } : Oper)) (v := ?_) rfl (by kernel_rfl) (by kernel_rfl) (by kernel_rfl) rfl (by kernel_rfl) (by kernel_rfl) (by kernel_rfl) (fun _ _ _ h => h) (Or.inl ⟨by rfl, ?_⟩) (by assumption) (by kernel_rfl) ?_
  rotate_left 1
  · intro w hSw; (try dsimp only at hSw); go_simp; try with_reducible rfl
  (try simp only [Act.put, List.setIfInBounds_toArray, List.set_cons_zero, List.set_cons_succ])
  refine wpAnyL_take (i := 2) 1 (oi := ({ dst := some 36, op := Op.load 30 (Operand.tmp 1), type := 30, pos := "law.go:46", after := #[], guard := none } : Oper)) (v := ?_) rfl (by kernel_rfl) (by kernel_rfl) (by kernel_rfl) rfl (by kernel_rfl) (by kernel_rfl) (by kernel_rfl) (fun _ _ _ h => h) (Or.inl ⟨by rfl, ?_⟩) (by assumption) (by kernel_rfl) ?_
  rotate_left 1
  · intro w hSw; (try dsimp only at hSw); go_simp; try with_reducible rfl
  (try simp only [Act.put, List.setIfInBounds_toArray, List.set_cons_zero, List.set_cons_succ])
  refine wpAnyL_ready (rs := [1]) (by kernel_rfl) (by simp) ?_
  refine AllReadyL.cons (o := _) rfl (fun K hK => ?_) AllReadyL.nil
  go_simp
  refine C.out.mono ?_
  rintro e w6 ⟨rfl, hB⟩
  have hB : Below w5.heap.size w5 w6 := hBd.trans hB
  clear C hC0 hBd
  have c0' := (hB.cell (p := ⟨w1.heap.size, 0, none⟩) (by show w1.heap.size < _; omega)).trans c0
  have c1' := (hB.cell (p := ⟨w1.heap.size, 1, none⟩) (by show w1.heap.size < _; omega)).trans c1
  have q0' := (hB.cell (p := ⟨w.heap.size, 0, none⟩) (by show w.heap.size < _; omega)).trans q0
  have q1' := (hB.cell (p := ⟨w.heap.size, 1, none⟩) (by show w.heap.size < _; omega)).trans q1
  have HG6 := Lib.hid (HG5.out.below hB)
  have HNL6 := Lib.hid (HNL5.out.below HG5.out hB)
  have HF6 := Lib.hid (HF5.out.below hB HF5.out.size)
  have HT6 := Lib.hid (HT5.out.below hB HT5.out.size)
  have HB6 := Lib.hid (HB5.out.trans (hB.mono HB5.out.size))
  have hz6 := hB.size
  clear hB HG5 HNL5 HF5 HT5 HB5 c0 c1 q0 q1
  have c0 := c0'
  have c1 := c1'
  have q0 := q0'
  have q1 := q1'
  clear c0' c1' q0' q1'
  refine hK.out _ _ ⟨.inr ⟨c0, c1⟩, .inr ⟨q0, q1⟩, trivial⟩ (fun hC0 => ?_)
  clear hK K
  (try simp only [Act.put, List.setIfInBounds_toArray, List.set_cons_zero, List.set_cons_succ])
  have C := rright_any An nn cn At nt ct R w6 HG6.out HL.out (by omega)
  rw [HRT.out] at C
  have C := Lib.hid C
  unfold grV at C
  refine wpAnyL_ready (rs := [3]) (by kernel_rfl) (by simp) ?_
  refine AllReadyL.cons (o := _) rfl (fun K hK => ?_) AllReadyL.nil
  go_simp
  refine C.out.mono ?_
  rintro e w7 ⟨rfl, hB⟩
  clear C hC0
  have c0' := (hB.cell (p := ⟨w1.heap.size, 0, none⟩) (by show w1.heap.size < _; omega)).trans c0
  have c1' := (hB.cell (p := ⟨w1.heap.size, 1, none⟩) (by show w1.heap.size < _; omega)).trans c1
  have q0' := (hB.cell (p := ⟨w.heap.size, 0, none⟩) (by show w.heap.size < _; omega)).trans q0
  have q1' := (hB.cell (p := ⟨w.heap.size, 1, none⟩) (by show w.heap.size < _; omega)).trans q1
  have HG7 := Lib.hid (HG6.out.below hB)
  have HNL7 := Lib.hid (HNL6.out.below HG6.out hB)
  have HF7 := Lib.hid (HF6.out.below hB HF6.out.size)
  have HT7 := Lib.hid (HT6.out.below hB HT6.out.size)
  have HB7 := Lib.hid (HB6.out.trans (hB.mono HB6.out.size))
  have hz7 := hB.size
  clear hB HG6 HNL6 HF6 HT6 HB6 c0 c1 q0 q1
  have c0 := c0'
  have c1 := c1'
  have q0 := q0'
  have q1 := q1'
  clear c0' c1' q0' q1'
  refine hK.out _ _ ⟨.inr ⟨c0, c1⟩, .inr ⟨q0, q1⟩, trivial⟩ (fun hC0 => ?_)
  clear hK K
  (try simp only [Act.put, List.setIfInBounds_toArray, List.set_cons_zero, List.set_cons_succ])
  refine wpAnyL_pure (i := 4) (oi := ({ dst := some 38, op := Op.binOp BinOp.neq 4 (Operand.tmp 35) (Operand.tmp 37) 4, type := 4, pos := "law.go:46", after := #[{ on := 1, ground := Ground.data }, { on := 3, ground := Ground.data }], guard := none } : Oper)) (v := ?_) rfl (by kernel_rfl) (by kernel_rfl) (by kernel_rfl) (by kernel_rfl) (fun _ _ _ h => h) (Or.inl ⟨by rfl, ?_⟩) (by assumption) (by kernel_rfl) ?_
  rotate_left 1
  · intro w hSw; clear hSw; go_simp; try with_reducible rfl
  (try simp only [Act.put, List.setIfInBounds_toArray, List.set_cons_zero, List.set_cons_succ])
  refine wpAnyL_done (by kernel_rfl) ?_ _
  clear hC0
  have C := rright_any An nn cn At nt ct R w7 HG7.out HL.out (by omega)
  rw [HRT.out] at C
  have C := Lib.hid C
  unfold grV at C
  go_wp2_with fail
  refine C.out.mono ?_
  rintro e w8 ⟨rfl, hB⟩
  clear C
  have c0' := (hB.cell (p := ⟨w1.heap.size, 0, none⟩) (by show w1.heap.size < _; omega)).trans c0
  have c1' := (hB.cell (p := ⟨w1.heap.size, 1, none⟩) (by show w1.heap.size < _; omega)).trans c1
  have q0' := (hB.cell (p := ⟨w.heap.size, 0, none⟩) (by show w.heap.size < _; omega)).trans q0
  have q1' := (hB.cell (p := ⟨w.heap.size, 1, none⟩) (by show w.heap.size < _; omega)).trans q1
  have HG8 := Lib.hid (HG7.out.below hB)
  have HNL8 := Lib.hid (HNL7.out.below HG7.out hB)
  have HF8 := Lib.hid (HF7.out.below hB HF7.out.size)
  have HT8 := Lib.hid (HT7.out.below hB HT7.out.size)
  have HB8 := Lib.hid (HB7.out.trans (hB.mono HB7.out.size))
  have hz8 := hB.size
  clear hB HG7 HNL7 HF7 HT7 HB7 c0 c1 q0 q1
  have c0 := c0'
  have c1 := c1'
  have q0 := q0'
  have q1 := q1'
  clear c0' c1' q0' q1'
  have L := Lib.hid (live19_any w8 HF8.out HT8.out)
  go_wp2_with fail
  refine L.out.mono ?_
  rintro e w99 ⟨rfl, hB⟩
  have HB99 := Lib.hid (HB8.out.trans (hB.mono HB8.out.size))
  clear hB
  go_wp2
  go_ret
  exact ⟨rfl, HB99.out⟩
set_option maxRecDepth 100000 in
set_option maxHeartbeats 8000000 in
theorem orders_loop (An : Option Addr) (nn cn : Nat) (At : Option Addr) (nt ct : Nat) (R : List (List Int)) (w : World) (hg : GrAt w At nt R) (hnil : GrNil w At nt) (hf : FormsAt w) (ht : Tabs w) (hgr : greatN nn nt R = false) (hr : rightN nn R = true) (k : Nat) (hlp : loopN (natG R) = (k : Int)) :
    Calls Tryd.prog 5 #[grV An nn cn At nt ct] w fun e w' => e = .returned (.bool true) ∧ Below w.heap.size w w' := by
  have HRT := Lib.hid hr
  obtain ⟨hR1, hR2, hR3⟩ := rightN_nat hr
  have HR1 := Lib.hid hR1
  have HR2 := Lib.hid hR2
  have HN := Lib.hid (show (natG R).length = nt by rw [natG_len]; exact hg.1)
  have hTT : total (natG R) ≤ 1048576 := by
    obtain ⟨_, _, h3⟩ := greatN_no hg.1 hgr
    rw [natG_total]; omega
  clear hr hR1 hR2 hR3
  have ho : (orderN (natG R)).length < nt := by
    have h1 := (orderN_good (natG R)).len
    rw [HN.out] at h1
    rcases Nat.lt_or_ge (orderN (natG R)).length nt with h | h
    · exact h
    · have := (loopN_full HR2.out).1 (by rw [HN.out]; omega)
      omega
  have hkn : k < nt := by rw [← HN.out]; exact (loopN_at hlp).1
  have HLP := Lib.hid hlp
  clear hlp
  obtain ⟨W, hW, hB, hz, c0, c1⟩ := grBox w An nn cn At nt ct 30
  obtain ⟨hs1, hs2, hs3⟩ := greatN_no hg.1 hgr
  have hfew := rows_few hs3
  have C := rgreat_any An nn cn At nt ct R W (hg.below hB) (fun r hr => Nat.le_trans (hfew r hr) (by omega)) (by omega) (by omega)
  rw [hgr] at C
  have C := Lib.hid C
  have HF := Lib.hid (hf.below hB hf.size)
  have HT := Lib.hid (ht.below hB ht.size)
  have HB := Lib.hid hB
  have HG := Lib.hid (hg.below hB)
  have HNL := Lib.hid (hnil.below hg hB)
  have HL := Lib.hid (fun r hr => Nat.le_trans (hfew r hr) (show 100 ≤ 9223372036854775806 by omega))
  clear hg hf ht hB hgr hfew hnil
  unfold grV at C ⊢
  go_enter Tryd.func5, Tryd.ntmps5
  go_wp2_with fail
  refine C.out.mono ?_
  rintro e w1 ⟨rfl, hB1⟩
  have d0 := (hB1.cell (p := ⟨w.heap.size, 0, none⟩) (by show w.heap.size < _; omega)).trans c0
  have d1 := (hB1.cell (p := ⟨w.heap.size, 1, none⟩) (by show w.heap.size < _; omega)).trans c1
  have HG1 := Lib.hid (HG.out.below hB1)
  have HNL1 := Lib.hid (HNL.out.below HG.out hB1)
  have HF1 := Lib.hid (HF.out.below hB1 HF.out.size)
  have HT1 := Lib.hid (HT.out.below hB1 HT.out.size)
  have HB1 := Lib.hid (HB.out.trans (hB1.mono HB.out.size))
  have hz1 := hB1.size
  clear hB1 HF HT C HB HG HNL c0 c1
  obtain ⟨W2, hW2, hB2, hz2, c0, c1⟩ := grBox w1 An nn cn At nt ct 28
  have q0 := (hB2.cell (p := ⟨w.heap.size, 0, none⟩) (by show w.heap.size < _; omega)).trans d0
  have q1 := (hB2.cell (p := ⟨w.heap.size, 1, none⟩) (by show w.heap.size < _; omega)).trans d1
  have HG2 := Lib.hid (HG1.out.below hB2)
  have HNL2 := Lib.hid (HNL1.out.below HG1.out hB2)
  have HF2 := Lib.hid (HF1.out.below hB2 HF1.out.size)
  have HT2 := Lib.hid (HT1.out.below hB2 HT1.out.size)
  have HB2 := Lib.hid (HB1.out.trans (hB2.mono HB1.out.size))
  clear hB2 HG1 HNL1 HF1 HT1 HB1
  have C := loop_some An nn cn At nt ct (natG R) W2 (by rw [HR1.out]; exact HG2.out) HNL2.out HR2.out hTT (by omega) (by rw [HR1.out]; exact HRT.out) k HLP.out
  have C := Lib.hid C
  unfold grV at C
  go_wp2_with fail
  refine C.out.mono ?_
  rintro e w3 ⟨rfl, hB⟩
  clear C
  have c0' := (hB.cell (p := ⟨w1.heap.size, 0, none⟩) (by show w1.heap.size < _; omega)).trans c0
  have c1' := (hB.cell (p := ⟨w1.heap.size, 1, none⟩) (by show w1.heap.size < _; omega)).trans c1
  have q0' := (hB.cell (p := ⟨w.heap.size, 0, none⟩) (by show w.heap.size < _; omega)).trans q0
  have q1' := (hB.cell (p := ⟨w.heap.size, 1, none⟩) (by show w.heap.size < _; omega)).trans q1
  have HG3 := Lib.hid (HG2.out.below hB)
  have HNL3 := Lib.hid (HNL2.out.below HG2.out hB)
  have HF3 := Lib.hid (HF2.out.below hB HF2.out.size)
  have HT3 := Lib.hid (HT2.out.below hB HT2.out.size)
  have HB3 := Lib.hid (HB2.out.trans (hB.mono HB2.out.size))
  have hz3 := hB.size
  clear hB HG2 HNL2 HF2 HT2 HB2 c0 c1 q0 q1
  have c0 := c0'
  have c1 := c1'
  have q0 := q0'
  have q1 := q1'
  clear c0' c1' q0' q1'
  have C := order_good An nn cn At nt ct (natG R) w3 (by rw [HR1.out]; exact HG3.out) HR2.out (by rw [HR1.out]; exact HL.out) (by omega) (by rw [HR1.out]; exact HRT.out)
  have C := Lib.hid C
  unfold grV at C
  go_wp2_with fail
  refine C.out.mono ?_
  rintro e w4 ⟨h, hB⟩
  rcases h with ⟨_, rfl⟩ | ⟨h, _⟩
  rotate_left 1
  · exact absurd h (by omega)
  clear C
  have c0' := (hB.cell (p := ⟨w1.heap.size, 0, none⟩) (by show w1.heap.size < _; omega)).trans c0
  have c1' := (hB.cell (p := ⟨w1.heap.size, 1, none⟩) (by show w1.heap.size < _; omega)).trans c1
  have q0' := (hB.cell (p := ⟨w.heap.size, 0, none⟩) (by show w.heap.size < _; omega)).trans q0
  have q1' := (hB.cell (p := ⟨w.heap.size, 1, none⟩) (by show w.heap.size < _; omega)).trans q1
  have HG4 := Lib.hid (HG3.out.below hB)
  have HNL4 := Lib.hid (HNL3.out.below HG3.out hB)
  have HF4 := Lib.hid (HF3.out.below hB HF3.out.size)
  have HT4 := Lib.hid (HT3.out.below hB HT3.out.size)
  have HB4 := Lib.hid (HB3.out.trans (hB.mono HB3.out.size))
  have hz4 := hB.size
  clear hB HG3 HNL3 HF3 HT3 HB3 c0 c1 q0 q1
  have c0 := c0'
  have c1 := c1'
  have q0 := q0'
  have q1 := q1'
  clear c0' c1' q0' q1'
  have C := depths_good An nn cn At nt ct (natG R) w4 (by rw [HR1.out]; exact HG4.out) HR2.out (by rw [HR1.out]; exact HL.out) (by omega) (by rw [HR1.out]; exact HRT.out)
  have C := Lib.hid C
  unfold grV at C
  go_wp2_with fail
  refine C.out.mono ?_
  rintro e w5 ⟨h, hB⟩
  rcases h with ⟨_, rfl⟩ | ⟨h, _⟩
  rotate_left 1
  · exact absurd h (by omega)
  clear C
  have c0' := (hB.cell (p := ⟨w1.heap.size, 0, none⟩) (by show w1.heap.size < _; omega)).trans c0
  have c1' := (hB.cell (p := ⟨w1.heap.size, 1, none⟩) (by show w1.heap.size < _; omega)).trans c1
  have q0' := (hB.cell (p := ⟨w.heap.size, 0, none⟩) (by show w.heap.size < _; omega)).trans q0
  have q1' := (hB.cell (p := ⟨w.heap.size, 1, none⟩) (by show w.heap.size < _; omega)).trans q1
  have HG5 := Lib.hid (HG4.out.below hB)
  have HNL5 := Lib.hid (HNL4.out.below HG4.out hB)
  have HF5 := Lib.hid (HF4.out.below hB HF4.out.size)
  have HT5 := Lib.hid (HT4.out.below hB HT4.out.size)
  have HB5 := Lib.hid (HB4.out.trans (hB.mono HB4.out.size))
  have hz5 := hB.size
  clear hB HG4 HNL4 HF4 HT4 HB4 c0 c1 q0 q1
  have c0 := c0'
  have c1 := c1'
  have q0 := q0'
  have q1 := q1'
  clear c0' c1' q0' q1'
  go_wp2_with fail
  have hBd : Below w5.heap.size w5 w5.drew := ⟨rfl, rfl, rfl, Nat.le_refl _, fun _ _ => rfl⟩
  have C := right_any An nn cn At nt ct R w5.drew (HG5.out.below hBd) HL.out (by omega)
  rw [HRT.out] at C
  have C := Lib.hid C
  unfold grV at C
  refine wp_region_late [(1, fun w' => w'.cell? ⟨w1.heap.size, 0, none⟩ = some (.slice An nn cn) ∧ w'.cell? ⟨w1.heap.size, 1, none⟩ = some (.slice At nt ct)), (3, fun w' => w'.cell? ⟨w.heap.size, 0, none⟩ = some (.slice An nn cn) ∧ w'.cell? ⟨w.heap.size, 1, none⟩ = some (.slice At nt ct))] (by kernel_rfl) ⟨.inr ⟨c0, c1⟩, .inr ⟨q0, q1⟩, trivial⟩ (fun hC0 => ?_)
  refine wpAnyL_take (i := 0) 0 (oi := ({ dst := some 34, op := Op.load 28 (Operand.tmp 3), type := 28, pos := "law.go:46", after := #[], guard := none } : Oper)) (v := ?_) rfl (by kernel_rfl) (by kernel_rfl) (by kernel_rfl) rfl (by kernel_rfl) (by kernel_rfl) (by kernel_rfl) (fun _ _ _ h => h) (Or.inl ⟨by rfl, ?_⟩) (by assumption) (by kernel_rfl) ?_
  rotate_left 1
  · intro w hSw; (try dsimp only at hSw); go_simp; try with_reducible rfl
  (try simp only [Act.put, List.setIfInBounds_toArray, List.set_cons_zero, List.set_cons_succ])
  refine wpAnyL_take (i := 2) 1 (oi := ({ dst := some 36, op := Op.load 30 (Operand.tmp 1), type := 30, pos := "law.go:46", after := #[], guard := none } : Oper)) (v := ?_) rfl (by kernel_rfl) (by kernel_rfl) (by kernel_rfl) rfl (by kernel_rfl) (by kernel_rfl) (by kernel_rfl) (fun _ _ _ h => h) (Or.inl ⟨by rfl, ?_⟩) (by assumption) (by kernel_rfl) ?_
  rotate_left 1
  · intro w hSw; (try dsimp only at hSw); go_simp; try with_reducible rfl
  (try simp only [Act.put, List.setIfInBounds_toArray, List.set_cons_zero, List.set_cons_succ])
  refine wpAnyL_ready (rs := [1]) (by kernel_rfl) (by simp) ?_
  refine AllReadyL.cons (o := _) rfl (fun K hK => ?_) AllReadyL.nil
  go_simp
  refine C.out.mono ?_
  rintro e w6 ⟨rfl, hB⟩
  have hB : Below w5.heap.size w5 w6 := hBd.trans hB
  clear C hC0 hBd
  have c0' := (hB.cell (p := ⟨w1.heap.size, 0, none⟩) (by show w1.heap.size < _; omega)).trans c0
  have c1' := (hB.cell (p := ⟨w1.heap.size, 1, none⟩) (by show w1.heap.size < _; omega)).trans c1
  have q0' := (hB.cell (p := ⟨w.heap.size, 0, none⟩) (by show w.heap.size < _; omega)).trans q0
  have q1' := (hB.cell (p := ⟨w.heap.size, 1, none⟩) (by show w.heap.size < _; omega)).trans q1
  have HG6 := Lib.hid (HG5.out.below hB)
  have HNL6 := Lib.hid (HNL5.out.below HG5.out hB)
  have HF6 := Lib.hid (HF5.out.below hB HF5.out.size)
  have HT6 := Lib.hid (HT5.out.below hB HT5.out.size)
  have HB6 := Lib.hid (HB5.out.trans (hB.mono HB5.out.size))
  have hz6 := hB.size
  clear hB HG5 HNL5 HF5 HT5 HB5 c0 c1 q0 q1
  have c0 := c0'
  have c1 := c1'
  have q0 := q0'
  have q1 := q1'
  clear c0' c1' q0' q1'
  refine hK.out _ _ ⟨.inr ⟨c0, c1⟩, .inr ⟨q0, q1⟩, trivial⟩ (fun hC0 => ?_)
  clear hK K
  (try simp only [Act.put, List.setIfInBounds_toArray, List.set_cons_zero, List.set_cons_succ])
  have C := rright_any An nn cn At nt ct R w6 HG6.out HL.out (by omega)
  rw [HRT.out] at C
  have C := Lib.hid C
  unfold grV at C
  refine wpAnyL_ready (rs := [3]) (by kernel_rfl) (by simp) ?_
  refine AllReadyL.cons (o := _) rfl (fun K hK => ?_) AllReadyL.nil
  go_simp
  refine C.out.mono ?_
  rintro e w7 ⟨rfl, hB⟩
  clear C hC0
  have c0' := (hB.cell (p := ⟨w1.heap.size, 0, none⟩) (by show w1.heap.size < _; omega)).trans c0
  have c1' := (hB.cell (p := ⟨w1.heap.size, 1, none⟩) (by show w1.heap.size < _; omega)).trans c1
  have q0' := (hB.cell (p := ⟨w.heap.size, 0, none⟩) (by show w.heap.size < _; omega)).trans q0
  have q1' := (hB.cell (p := ⟨w.heap.size, 1, none⟩) (by show w.heap.size < _; omega)).trans q1
  have HG7 := Lib.hid (HG6.out.below hB)
  have HNL7 := Lib.hid (HNL6.out.below HG6.out hB)
  have HF7 := Lib.hid (HF6.out.below hB HF6.out.size)
  have HT7 := Lib.hid (HT6.out.below hB HT6.out.size)
  have HB7 := Lib.hid (HB6.out.trans (hB.mono HB6.out.size))
  have hz7 := hB.size
  clear hB HG6 HNL6 HF6 HT6 HB6 c0 c1 q0 q1
  have c0 := c0'
  have c1 := c1'
  have q0 := q0'
  have q1 := q1'
  clear c0' c1' q0' q1'
  refine hK.out _ _ ⟨.inr ⟨c0, c1⟩, .inr ⟨q0, q1⟩, trivial⟩ (fun hC0 => ?_)
  clear hK K
  (try simp only [Act.put, List.setIfInBounds_toArray, List.set_cons_zero, List.set_cons_succ])
  refine wpAnyL_pure (i := 4) (oi := ({ dst := some 38, op := Op.binOp BinOp.neq 4 (Operand.tmp 35) (Operand.tmp 37) 4, type := 4, pos := "law.go:46", after := #[{ on := 1, ground := Ground.data }, { on := 3, ground := Ground.data }], guard := none } : Oper)) (v := ?_) rfl (by kernel_rfl) (by kernel_rfl) (by kernel_rfl) (by kernel_rfl) (fun _ _ _ h => h) (Or.inl ⟨by rfl, ?_⟩) (by assumption) (by kernel_rfl) ?_
  rotate_left 1
  · intro w hSw; clear hSw; go_simp; try with_reducible rfl
  (try simp only [Act.put, List.setIfInBounds_toArray, List.set_cons_zero, List.set_cons_succ])
  refine wpAnyL_done (by kernel_rfl) ?_ _
  clear hC0
  have C := rright_any An nn cn At nt ct R w7 HG7.out HL.out (by omega)
  rw [HRT.out] at C
  have C := Lib.hid C
  unfold grV at C
  go_wp2_with fail
  refine C.out.mono ?_
  rintro e w8 ⟨rfl, hB⟩
  clear C
  have c0' := (hB.cell (p := ⟨w1.heap.size, 0, none⟩) (by show w1.heap.size < _; omega)).trans c0
  have c1' := (hB.cell (p := ⟨w1.heap.size, 1, none⟩) (by show w1.heap.size < _; omega)).trans c1
  have q0' := (hB.cell (p := ⟨w.heap.size, 0, none⟩) (by show w.heap.size < _; omega)).trans q0
  have q1' := (hB.cell (p := ⟨w.heap.size, 1, none⟩) (by show w.heap.size < _; omega)).trans q1
  have HG8 := Lib.hid (HG7.out.below hB)
  have HNL8 := Lib.hid (HNL7.out.below HG7.out hB)
  have HF8 := Lib.hid (HF7.out.below hB HF7.out.size)
  have HT8 := Lib.hid (HT7.out.below hB HT7.out.size)
  have HB8 := Lib.hid (HB7.out.trans (hB.mono HB7.out.size))
  have hz8 := hB.size
  clear hB HG7 HNL7 HF7 HT7 HB7 c0 c1 q0 q1
  have c0 := c0'
  have c1 := c1'
  have q0 := q0'
  have q1 := q1'
  clear c0' c1' q0' q1'
  have C := rloop_any An nn cn At nt ct (natG R) w8 (by rw [HR1.out]; exact HG8.out) HR2.out (by rw [HR1.out]; exact HL.out) (by omega)
  rw [HLP.out] at C
  have C := Lib.hid C
  unfold grV at C
  go_wp2_with fail
  refine C.out.mono ?_
  rintro e w9 ⟨rfl, hB⟩
  clear C
  have c0' := (hB.cell (p := ⟨w1.heap.size, 0, none⟩) (by show w1.heap.size < _; omega)).trans c0
  have c1' := (hB.cell (p := ⟨w1.heap.size, 1, none⟩) (by show w1.heap.size < _; omega)).trans c1
  have q0' := (hB.cell (p := ⟨w.heap.size, 0, none⟩) (by show w.heap.size < _; omega)).trans q0
  have q1' := (hB.cell (p := ⟨w.heap.size, 1, none⟩) (by show w.heap.size < _; omega)).trans q1
  have HG9 := Lib.hid (HG8.out.below hB)
  have HNL9 := Lib.hid (HNL8.out.below HG8.out hB)
  have HF9 := Lib.hid (HF8.out.below hB HF8.out.size)
  have HT9 := Lib.hid (HT8.out.below hB HT8.out.size)
  have HB9 := Lib.hid (HB8.out.trans (hB.mono HB8.out.size))
  have hz9 := hB.size
  clear hB HG8 HNL8 HF8 HT8 HB8 c0 c1 q0 q1
  have c0 := c0'
  have c1 := c1'
  have q0 := q0'
  have q1 := q1'
  clear c0' c1' q0' q1'
  have t0 : (0 : Int) ≤ (k : Int) := by omega
  have L := Lib.hid (live19_any w9 HF9.out HT9.out)
  go_wp2_with fail
  refine L.out.mono ?_
  rintro e w99 ⟨rfl, hB⟩
  have HB99 := Lib.hid (HB9.out.trans (hB.mono HB9.out.size))
  clear hB
  go_wp2
  go_ret
  exact ⟨rfl, HB99.out⟩
set_option maxRecDepth 100000 in
set_option maxHeartbeats 16000000 in
theorem orders_none (An : Option Addr) (nn cn : Nat) (At : Option Addr) (nt ct : Nat) (R : List (List Int)) (w : World) (hg : GrAt w At nt R) (hnil : GrNil w At nt) (hf : FormsAt w) (ht : Tabs w) (hgr : greatN nn nt R = false) (hr : rightN nn R = true) (hlp : loopN (natG R) = -1) :
    Calls Tryd.prog 5 #[grV An nn cn At nt ct] w fun e w' => e = .returned (.bool true) ∧ Below w.heap.size w w' := by
  have HRT := Lib.hid hr
  obtain ⟨hR1, hR2, hR3⟩ := rightN_nat hr
  have HR1 := Lib.hid hR1
  have HR2 := Lib.hid hR2
  have HN := Lib.hid (show (natG R).length = nt by rw [natG_len]; exact hg.1)
  have hTT : total (natG R) ≤ 1048576 := by
    obtain ⟨_, _, h3⟩ := greatN_no hg.1 hgr
    rw [natG_total]; omega
  clear hr hR1 hR2 hR3
  have ho : (orderN (natG R)).length = nt := by rw [← HN.out]; exact (loopN_full HR2.out).2 hlp
  have HO := Lib.hid ho
  have HDS := Lib.hid (depths_same (orderN_good (natG R)) (by rw [HN.out]; exact ho))
  have HLP := Lib.hid hlp
  clear hlp ho
  obtain ⟨W, hW, hB, hz, c0, c1⟩ := grBox w An nn cn At nt ct 30
  obtain ⟨hs1, hs2, hs3⟩ := greatN_no hg.1 hgr
  have hfew := rows_few hs3
  have C := rgreat_any An nn cn At nt ct R W (hg.below hB) (fun r hr => Nat.le_trans (hfew r hr) (by omega)) (by omega) (by omega)
  rw [hgr] at C
  have C := Lib.hid C
  have HF := Lib.hid (hf.below hB hf.size)
  have HT := Lib.hid (ht.below hB ht.size)
  have HB := Lib.hid hB
  have HG := Lib.hid (hg.below hB)
  have HNL := Lib.hid (hnil.below hg hB)
  have HL := Lib.hid (fun r hr => Nat.le_trans (hfew r hr) (show 100 ≤ 9223372036854775806 by omega))
  clear hg hf ht hB hgr hfew hnil
  unfold grV at C ⊢
  go_enter Tryd.func5, Tryd.ntmps5
  go_wp2_with fail
  refine C.out.mono ?_
  rintro e w1 ⟨rfl, hB1⟩
  have d0 := (hB1.cell (p := ⟨w.heap.size, 0, none⟩) (by show w.heap.size < _; omega)).trans c0
  have d1 := (hB1.cell (p := ⟨w.heap.size, 1, none⟩) (by show w.heap.size < _; omega)).trans c1
  have HG1 := Lib.hid (HG.out.below hB1)
  have HNL1 := Lib.hid (HNL.out.below HG.out hB1)
  have HF1 := Lib.hid (HF.out.below hB1 HF.out.size)
  have HT1 := Lib.hid (HT.out.below hB1 HT.out.size)
  have HB1 := Lib.hid (HB.out.trans (hB1.mono HB.out.size))
  have hz1 := hB1.size
  clear hB1 HF HT C HB HG HNL c0 c1
  obtain ⟨W2, hW2, hB2, hz2, c0, c1⟩ := grBox w1 An nn cn At nt ct 28
  have q0 := (hB2.cell (p := ⟨w.heap.size, 0, none⟩) (by show w.heap.size < _; omega)).trans d0
  have q1 := (hB2.cell (p := ⟨w.heap.size, 1, none⟩) (by show w.heap.size < _; omega)).trans d1
  have HG2 := Lib.hid (HG1.out.below hB2)
  have HNL2 := Lib.hid (HNL1.out.below HG1.out hB2)
  have HF2 := Lib.hid (HF1.out.below hB2 HF1.out.size)
  have HT2 := Lib.hid (HT1.out.below hB2 HT1.out.size)
  have HB2 := Lib.hid (HB1.out.trans (hB2.mono HB1.out.size))
  clear hB2 HG1 HNL1 HF1 HT1 HB1
  have C := loop_none An nn cn At nt ct (natG R) W2 (by rw [HR1.out]; exact HG2.out) HNL2.out HR2.out hTT (by omega) (by rw [HR1.out]; exact HRT.out) HLP.out
  have C := Lib.hid C
  unfold grV at C
  go_wp2_with fail
  refine C.out.mono ?_
  rintro e w3 ⟨rfl, hB⟩
  clear C
  have c0' := (hB.cell (p := ⟨w1.heap.size, 0, none⟩) (by show w1.heap.size < _; omega)).trans c0
  have c1' := (hB.cell (p := ⟨w1.heap.size, 1, none⟩) (by show w1.heap.size < _; omega)).trans c1
  have q0' := (hB.cell (p := ⟨w.heap.size, 0, none⟩) (by show w.heap.size < _; omega)).trans q0
  have q1' := (hB.cell (p := ⟨w.heap.size, 1, none⟩) (by show w.heap.size < _; omega)).trans q1
  have HG3 := Lib.hid (HG2.out.below hB)
  have HNL3 := Lib.hid (HNL2.out.below HG2.out hB)
  have HF3 := Lib.hid (HF2.out.below hB HF2.out.size)
  have HT3 := Lib.hid (HT2.out.below hB HT2.out.size)
  have HB3 := Lib.hid (HB2.out.trans (hB.mono HB2.out.size))
  have hz3 := hB.size
  clear hB HG2 HNL2 HF2 HT2 HB2 c0 c1 q0 q1
  have c0 := c0'
  have c1 := c1'
  have q0 := q0'
  have q1 := q1'
  clear c0' c1' q0' q1'
  have C := order_good An nn cn At nt ct (natG R) w3 (by rw [HR1.out]; exact HG3.out) HR2.out (by rw [HR1.out]; exact HL.out) (by omega) (by rw [HR1.out]; exact HRT.out)
  have C := Lib.hid C
  unfold grV at C
  go_wp2_with fail
  refine C.out.mono ?_
  rintro e w4 ⟨h, hB⟩
  rcases h with ⟨h, _⟩ | ⟨_, A4, c4, rfl, hown⟩
  · exact absurd h (by rw [HO.out]; omega)
  have HA4 := Lib.hid hown
  clear hown
  clear C
  have c0' := (hB.cell (p := ⟨w1.heap.size, 0, none⟩) (by show w1.heap.size < _; omega)).trans c0
  have c1' := (hB.cell (p := ⟨w1.heap.size, 1, none⟩) (by show w1.heap.size < _; omega)).trans c1
  have q0' := (hB.cell (p := ⟨w.heap.size, 0, none⟩) (by show w.heap.size < _; omega)).trans q0
  have q1' := (hB.cell (p := ⟨w.heap.size, 1, none⟩) (by show w.heap.size < _; omega)).trans q1
  have HG4 := Lib.hid (HG3.out.below hB)
  have HNL4 := Lib.hid (HNL3.out.below HG3.out hB)
  have HF4 := Lib.hid (HF3.out.below hB HF3.out.size)
  have HT4 := Lib.hid (HT3.out.below hB HT3.out.size)
  have HB4 := Lib.hid (HB3.out.trans (hB.mono HB3.out.size))
  have hz4 := hB.size
  clear hB HG3 HNL3 HF3 HT3 HB3 c0 c1 q0 q1
  have c0 := c0'
  have c1 := c1'
  have q0 := q0'
  have q1 := q1'
  clear c0' c1' q0' q1'
  have C := depths_good An nn cn At nt ct (natG R) w4 (by rw [HR1.out]; exact HG4.out) HR2.out (by rw [HR1.out]; exact HL.out) (by omega) (by rw [HR1.out]; exact HRT.out)
  have C := Lib.hid C
  unfold grV at C
  go_wp2_with fail
  refine C.out.mono ?_
  rintro e w5 ⟨h, hB⟩
  rcases h with ⟨h, _⟩ | ⟨_, A5, c5, rfl, hown⟩
  · exact absurd h (by rw [HO.out]; omega)
  rw [HDS.out] at hown
  have HA5 := Lib.hid hown
  clear hown
  have HA4 := Lib.hid (ownB_belowG HA4.out hB)
  clear C
  have c0' := (hB.cell (p := ⟨w1.heap.size, 0, none⟩) (by show w1.heap.size < _; omega)).trans c0
  have c1' := (hB.cell (p := ⟨w1.heap.size, 1, none⟩) (by show w1.heap.size < _; omega)).trans c1
  have q0' := (hB.cell (p := ⟨w.heap.size, 0, none⟩) (by show w.heap.size < _; omega)).trans q0
  have q1' := (hB.cell (p := ⟨w.heap.size, 1, none⟩) (by show w.heap.size < _; omega)).trans q1
  have HG5 := Lib.hid (HG4.out.below hB)
  have HNL5 := Lib.hid (HNL4.out.below HG4.out hB)
  have HF5 := Lib.hid (HF4.out.below hB HF4.out.size)
  have HT5 := Lib.hid (HT4.out.below hB HT4.out.size)
  have HB5 := Lib.hid (HB4.out.trans (hB.mono HB4.out.size))
  have hz5 := hB.size
  clear hB HG4 HNL4 HF4 HT4 HB4 c0 c1 q0 q1
  have c0 := c0'
  have c1 := c1'
  have q0 := q0'
  have q1 := q1'
  clear c0' c1' q0' q1'
  go_wp2_with fail
  have hBd : Below w5.heap.size w5 w5.drew := ⟨rfl, rfl, rfl, Nat.le_refl _, fun _ _ => rfl⟩
  have C := right_any An nn cn At nt ct R w5.drew (HG5.out.below hBd) HL.out (by omega)
  rw [HRT.out] at C
  have C := Lib.hid C
  unfold grV at C
  refine wp_region_late [(1, fun w' => w'.cell? ⟨w1.heap.size, 0, none⟩ = some (.slice An nn cn) ∧ w'.cell? ⟨w1.heap.size, 1, none⟩ = some (.slice At nt ct)), (3, fun w' => w'.cell? ⟨w.heap.size, 0, none⟩ = some (.slice An nn cn) ∧ w'.cell? ⟨w.heap.size, 1, none⟩ = some (.slice At nt ct))] (by kernel_rfl) ⟨.inr ⟨c0, c1⟩, .inr ⟨q0, q1⟩, trivial⟩ (fun hC0 => ?_)
  refine wpAnyL_take (i := 0) 0 (oi := ({ dst := some 34, op := Op.load 28 (Operand.tmp 3), type := 28, pos := "law.go:46", after := #[], guard := none } : Oper)) (v := ?_) rfl (by kernel_rfl) (by kernel_rfl) (by kernel_rfl) rfl (by kernel_rfl) (by kernel_rfl) (by kernel_rfl) (fun _ _ _ h => h) (Or.inl ⟨by rfl, ?_⟩) (by assumption) (by kernel_rfl) ?_
  rotate_left 1
  · intro w hSw; (try dsimp only at hSw); go_simp; try with_reducible rfl
  (try simp only [Act.put, List.setIfInBounds_toArray, List.set_cons_zero, List.set_cons_succ])
  refine wpAnyL_take (i := 2) 1 (oi := ({ dst := some 36, op := Op.load 30 (Operand.tmp 1), type := 30, pos := "law.go:46", after := #[], guard := none } : Oper)) (v := ?_) rfl (by kernel_rfl) (by kernel_rfl) (by kernel_rfl) rfl (by kernel_rfl) (by kernel_rfl) (by kernel_rfl) (fun _ _ _ h => h) (Or.inl ⟨by rfl, ?_⟩) (by assumption) (by kernel_rfl) ?_
  rotate_left 1
  · intro w hSw; (try dsimp only at hSw); go_simp; try with_reducible rfl
  (try simp only [Act.put, List.setIfInBounds_toArray, List.set_cons_zero, List.set_cons_succ])
  refine wpAnyL_ready (rs := [1]) (by kernel_rfl) (by simp) ?_
  refine AllReadyL.cons (o := _) rfl (fun K hK => ?_) AllReadyL.nil
  go_simp
  refine C.out.mono ?_
  rintro e w6 ⟨rfl, hB⟩
  have hB : Below w5.heap.size w5 w6 := hBd.trans hB
  clear C hC0 hBd
  have c0' := (hB.cell (p := ⟨w1.heap.size, 0, none⟩) (by show w1.heap.size < _; omega)).trans c0
  have c1' := (hB.cell (p := ⟨w1.heap.size, 1, none⟩) (by show w1.heap.size < _; omega)).trans c1
  have q0' := (hB.cell (p := ⟨w.heap.size, 0, none⟩) (by show w.heap.size < _; omega)).trans q0
  have q1' := (hB.cell (p := ⟨w.heap.size, 1, none⟩) (by show w.heap.size < _; omega)).trans q1
  have HG6 := Lib.hid (HG5.out.below hB)
  have HNL6 := Lib.hid (HNL5.out.below HG5.out hB)
  have HF6 := Lib.hid (HF5.out.below hB HF5.out.size)
  have HT6 := Lib.hid (HT5.out.below hB HT5.out.size)
  have HB6 := Lib.hid (HB5.out.trans (hB.mono HB5.out.size))
  have hz6 := hB.size
  have HA4 := Lib.hid (ownB_belowG HA4.out hB)
  have HA5 := Lib.hid (ownB_belowG HA5.out hB)
  clear hB HG5 HNL5 HF5 HT5 HB5 c0 c1 q0 q1
  have c0 := c0'
  have c1 := c1'
  have q0 := q0'
  have q1 := q1'
  clear c0' c1' q0' q1'
  refine hK.out _ _ ⟨.inr ⟨c0, c1⟩, .inr ⟨q0, q1⟩, trivial⟩ (fun hC0 => ?_)
  clear hK K
  (try simp only [Act.put, List.setIfInBounds_toArray, List.set_cons_zero, List.set_cons_succ])
  have C := rright_any An nn cn At nt ct R w6 HG6.out HL.out (by omega)
  rw [HRT.out] at C
  have C := Lib.hid C
  unfold grV at C
  refine wpAnyL_ready (rs := [3]) (by kernel_rfl) (by simp) ?_
  refine AllReadyL.cons (o := _) rfl (fun K hK => ?_) AllReadyL.nil
  go_simp
  refine C.out.mono ?_
  rintro e w7 ⟨rfl, hB⟩
  clear C hC0
  have c0' := (hB.cell (p := ⟨w1.heap.size, 0, none⟩) (by show w1.heap.size < _; omega)).trans c0
  have c1' := (hB.cell (p := ⟨w1.heap.size, 1, none⟩) (by show w1.heap.size < _; omega)).trans c1
  have q0' := (hB.cell (p := ⟨w.heap.size, 0, none⟩) (by show w.heap.size < _; omega)).trans q0
  have q1' := (hB.cell (p := ⟨w.heap.size, 1, none⟩) (by show w.heap.size < _; omega)).trans q1
  have HG7 := Lib.hid (HG6.out.below hB)
  have HNL7 := Lib.hid (HNL6.out.below HG6.out hB)
  have HF7 := Lib.hid (HF6.out.below hB HF6.out.size)
  have HT7 := Lib.hid (HT6.out.below hB HT6.out.size)
  have HB7 := Lib.hid (HB6.out.trans (hB.mono HB6.out.size))
  have hz7 := hB.size
  have HA4 := Lib.hid (ownB_belowG HA4.out hB)
  have HA5 := Lib.hid (ownB_belowG HA5.out hB)
  clear hB HG6 HNL6 HF6 HT6 HB6 c0 c1 q0 q1
  have c0 := c0'
  have c1 := c1'
  have q0 := q0'
  have q1 := q1'
  clear c0' c1' q0' q1'
  refine hK.out _ _ ⟨.inr ⟨c0, c1⟩, .inr ⟨q0, q1⟩, trivial⟩ (fun hC0 => ?_)
  clear hK K
  (try simp only [Act.put, List.setIfInBounds_toArray, List.set_cons_zero, List.set_cons_succ])
  refine wpAnyL_pure (i := 4) (oi := ({ dst := some 38, op := Op.binOp BinOp.neq 4 (Operand.tmp 35) (Operand.tmp 37) 4, type := 4, pos := "law.go:46", after := #[{ on := 1, ground := Ground.data }, { on := 3, ground := Ground.data }], guard := none } : Oper)) (v := ?_) rfl (by kernel_rfl) (by kernel_rfl) (by kernel_rfl) (by kernel_rfl) (fun _ _ _ h => h) (Or.inl ⟨by rfl, ?_⟩) (by assumption) (by kernel_rfl) ?_
  rotate_left 1
  · intro w hSw; clear hSw; go_simp; try with_reducible rfl
  (try simp only [Act.put, List.setIfInBounds_toArray, List.set_cons_zero, List.set_cons_succ])
  refine wpAnyL_done (by kernel_rfl) ?_ _
  clear hC0
  have C := rright_any An nn cn At nt ct R w7 HG7.out HL.out (by omega)
  rw [HRT.out] at C
  have C := Lib.hid C
  unfold grV at C
  go_wp2_with fail
  refine C.out.mono ?_
  rintro e w8 ⟨rfl, hB⟩
  clear C
  have HA4 := Lib.hid (ownB_belowG HA4.out hB)
  have HA5 := Lib.hid (ownB_belowG HA5.out hB)
  have c0' := (hB.cell (p := ⟨w1.heap.size, 0, none⟩) (by show w1.heap.size < _; omega)).trans c0
  have c1' := (hB.cell (p := ⟨w1.heap.size, 1, none⟩) (by show w1.heap.size < _; omega)).trans c1
  have q0' := (hB.cell (p := ⟨w.heap.size, 0, none⟩) (by show w.heap.size < _; omega)).trans q0
  have q1' := (hB.cell (p := ⟨w.heap.size, 1, none⟩) (by show w.heap.size < _; omega)).trans q1
  have HG8 := Lib.hid (HG7.out.below hB)
  have HNL8 := Lib.hid (HNL7.out.below HG7.out hB)
  have HF8 := Lib.hid (HF7.out.below hB HF7.out.size)
  have HT8 := Lib.hid (HT7.out.below hB HT7.out.size)
  have HB8 := Lib.hid (HB7.out.trans (hB.mono HB7.out.size))
  have hz8 := hB.size
  clear hB HG7 HNL7 HF7 HT7 HB7 c0 c1 q0 q1
  have c0 := c0'
  have c1 := c1'
  have q0 := q0'
  have q1 := q1'
  clear c0' c1' q0' q1'
  have C := rloop_any An nn cn At nt ct (natG R) w8 (by rw [HR1.out]; exact HG8.out) HR2.out (by rw [HR1.out]; exact HL.out) (by omega)
  rw [HLP.out] at C
  have C := Lib.hid C
  unfold grV at C
  go_wp2_with fail
  refine C.out.mono ?_
  rintro e w9 ⟨rfl, hB⟩
  clear C
  have HA4 := Lib.hid (ownB_belowG HA4.out hB)
  have HA5 := Lib.hid (ownB_belowG HA5.out hB)
  have c0' := (hB.cell (p := ⟨w1.heap.size, 0, none⟩) (by show w1.heap.size < _; omega)).trans c0
  have c1' := (hB.cell (p := ⟨w1.heap.size, 1, none⟩) (by show w1.heap.size < _; omega)).trans c1
  have q0' := (hB.cell (p := ⟨w.heap.size, 0, none⟩) (by show w.heap.size < _; omega)).trans q0
  have q1' := (hB.cell (p := ⟨w.heap.size, 1, none⟩) (by show w.heap.size < _; omega)).trans q1
  have HG9 := Lib.hid (HG8.out.below hB)
  have HNL9 := Lib.hid (HNL8.out.below HG8.out hB)
  have HF9 := Lib.hid (HF8.out.below hB HF8.out.size)
  have HT9 := Lib.hid (HT8.out.below hB HT8.out.size)
  have HB9 := Lib.hid (HB8.out.trans (hB.mono HB8.out.size))
  have hz9 := hB.size
  clear hB HG8 HNL8 HF8 HT8 HB8 c0 c1 q0 q1
  have c0 := c0'
  have c1 := c1'
  have q0 := q0'
  have q1 := q1'
  clear c0' c1' q0' q1'
  have C := Lib.hid (rorder_any An nn cn At nt ct (natG R) w9 (by rw [HR1.out]; exact HG9.out) HR2.out (by rw [HR1.out]; exact HL.out) (by omega) HO.out)
  unfold grV at C
  go_wp2_with fail
  refine C.out.mono ?_
  rintro e w10 ⟨A10, c10, rfl, hown, hB⟩
  clear C
  have CI := Lib.hid (intsB' A4 nt c4 A10 c10 (orderN (natG R)) _ _ w9 w10 HO.out.symm HA4.out hB hown (by omega))
  have HA5 := Lib.hid (ownB_belowG HA5.out hB)
  clear hown HA4
  have c0' := (hB.cell (p := ⟨w1.heap.size, 0, none⟩) (by show w1.heap.size < _; omega)).trans c0
  have c1' := (hB.cell (p := ⟨w1.heap.size, 1, none⟩) (by show w1.heap.size < _; omega)).trans c1
  have q0' := (hB.cell (p := ⟨w.heap.size, 0, none⟩) (by show w.heap.size < _; omega)).trans q0
  have q1' := (hB.cell (p := ⟨w.heap.size, 1, none⟩) (by show w.heap.size < _; omega)).trans q1
  have HG10 := Lib.hid (HG9.out.below hB)
  have HNL10 := Lib.hid (HNL9.out.below HG9.out hB)
  have HF10 := Lib.hid (HF9.out.below hB HF9.out.size)
  have HT10 := Lib.hid (HT9.out.below hB HT9.out.size)
  have HB10 := Lib.hid (HB9.out.trans (hB.mono HB9.out.size))
  have hz10 := hB.size
  clear hB HG9 HNL9 HF9 HT9 HB9 c0 c1 q0 q1
  have c0 := c0'
  have c1 := c1'
  have q0 := q0'
  have q1 := q1'
  clear c0' c1' q0' q1'
  go_wp2_with fail
  refine CI.out.mono ?_
  rintro e w11 ⟨rfl, hB⟩
  clear CI
  have HA5 := Lib.hid (ownB_belowG HA5.out hB)
  have c0' := (hB.cell (p := ⟨w1.heap.size, 0, none⟩) (by show w1.heap.size < _; omega)).trans c0
  have c1' := (hB.cell (p := ⟨w1.heap.size, 1, none⟩) (by show w1.heap.size < _; omega)).trans c1
  have q0' := (hB.cell (p := ⟨w.heap.size, 0, none⟩) (by show w.heap.size < _; omega)).trans q0
  have q1' := (hB.cell (p := ⟨w.heap.size, 1, none⟩) (by show w.heap.size < _; omega)).trans q1
  have HG11 := Lib.hid (HG10.out.below hB)
  have HNL11 := Lib.hid (HNL10.out.below HG10.out hB)
  have HF11 := Lib.hid (HF10.out.below hB HF10.out.size)
  have HT11 := Lib.hid (HT10.out.below hB HT10.out.size)
  have HB11 := Lib.hid (HB10.out.trans (hB.mono HB10.out.size))
  have hz11 := hB.size
  clear hB HG10 HNL10 HF10 HT10 HB10 c0 c1 q0 q1
  have c0 := c0'
  have c1 := c1'
  have q0 := q0'
  have q1 := q1'
  clear c0' c1' q0' q1'
  have C := Lib.hid (rdepths_any An nn cn At nt ct (natG R) w11 (by rw [HR1.out]; exact HG11.out) HR2.out (by rw [HR1.out]; exact HL.out) (by omega))
  unfold grV at C
  go_wp2_with fail
  refine C.out.mono ?_
  rintro e w12 ⟨A12, c12, rfl, hown, hB⟩
  clear C
  have CI := Lib.hid (intsB' A5 nt c5 A12 c12 (depthsN (natG R)) _ _ w11 w12 (by unfold depthsN; rw [deepR_len, HN.out]) HA5.out hB hown (by omega))
  clear hown HA5
  have c0' := (hB.cell (p := ⟨w1.heap.size, 0, none⟩) (by show w1.heap.size < _; omega)).trans c0
  have c1' := (hB.cell (p := ⟨w1.heap.size, 1, none⟩) (by show w1.heap.size < _; omega)).trans c1
  have q0' := (hB.cell (p := ⟨w.heap.size, 0, none⟩) (by show w.heap.size < _; omega)).trans q0
  have q1' := (hB.cell (p := ⟨w.heap.size, 1, none⟩) (by show w.heap.size < _; omega)).trans q1
  have HG12 := Lib.hid (HG11.out.below hB)
  have HNL12 := Lib.hid (HNL11.out.below HG11.out hB)
  have HF12 := Lib.hid (HF11.out.below hB HF11.out.size)
  have HT12 := Lib.hid (HT11.out.below hB HT11.out.size)
  have HB12 := Lib.hid (HB11.out.trans (hB.mono HB11.out.size))
  have hz12 := hB.size
  clear hB HG11 HNL11 HF11 HT11 HB11 c0 c1 q0 q1
  have c0 := c0'
  have c1 := c1'
  have q0 := q0'
  have q1 := q1'
  clear c0' c1' q0' q1'
  go_wp2_with fail
  refine CI.out.mono ?_
  rintro e w13 ⟨rfl, hB⟩
  clear CI
  have c0' := (hB.cell (p := ⟨w1.heap.size, 0, none⟩) (by show w1.heap.size < _; omega)).trans c0
  have c1' := (hB.cell (p := ⟨w1.heap.size, 1, none⟩) (by show w1.heap.size < _; omega)).trans c1
  have q0' := (hB.cell (p := ⟨w.heap.size, 0, none⟩) (by show w.heap.size < _; omega)).trans q0
  have q1' := (hB.cell (p := ⟨w.heap.size, 1, none⟩) (by show w.heap.size < _; omega)).trans q1
  have HG13 := Lib.hid (HG12.out.below hB)
  have HNL13 := Lib.hid (HNL12.out.below HG12.out hB)
  have HF13 := Lib.hid (HF12.out.below hB HF12.out.size)
  have HT13 := Lib.hid (HT12.out.below hB HT12.out.size)
  have HB13 := Lib.hid (HB12.out.trans (hB.mono HB12.out.size))
  have hz13 := hB.size
  clear hB HG12 HNL12 HF12 HT12 HB12 c0 c1 q0 q1
  have c0 := c0'
  have c1 := c1'
  have q0 := q0'
  have q1 := q1'
  clear c0' c1' q0' q1'
  have L := Lib.hid (live19_any w13 HF13.out HT13.out)
  go_wp2_with fail
  refine L.out.mono ?_
  rintro e w99 ⟨rfl, hB⟩
  have HB99 := Lib.hid (HB13.out.trans (hB.mono HB13.out.size))
  clear hB
  go_wp2
  go_ret
  exact ⟨rfl, HB99.out⟩
theorem graphOrders_any (An : Option Addr) (nn cn : Nat) (At : Option Addr) (nt ct : Nat) (R : List (List Int)) (w : World) (hg : GrAt w At nt R) (hnil : GrNil w At nt) (hs : ∀ r ∈ R, r.length ≤ 17592186044416) (hnn : nn ≤ maxLen) (hnt : nt ≤ maxLen) (hf : FormsAt w) (ht : Tabs w) :
    Calls Tryd.prog 5 #[grV An nn cn At nt ct] w fun e w' => e = .returned (.bool true) ∧ Below w.heap.size w w' := by
  cases hgr : greatN nn nt R with
  | true => exact orders_great An nn cn At nt ct R w hg hs hnn hnt hf ht hgr
  | false =>
    cases hr : rightN nn R with
    | false => exact orders_bad An nn cn At nt ct R w hg hnil hf ht hgr hr
    | true =>
      have h2 : loopN (natG R) = -1 ∨ ∃ k : Nat, loopN (natG R) = (k : Int) := by
        unfold loopN
        cases (List.range (natG R).length).find? (fun i => mk (leadsN (natG R) i) i) with
        | none => exact .inl rfl
        | some k => exact .inr ⟨k, rfl⟩
      rcases h2 with h | ⟨k, h⟩
      · exact orders_none An nn cn At nt ct R w hg hnil hf ht hgr hr h
      · exact orders_loop An nn cn At nt ct R w hg hnil hf ht hgr hr k h
end Go.Proofs.YtignndcjblfocaaDoor

