/- The law GraphBehind, walked. Conditions: the tables of chars and of utf hold what the text gives them. -/
import Derived.Test.YtignndcjblfocaaDoorGraphLive
import Derived.Test.YtignndcjblfocaaDoorGraphIn
import Derived.Test.YtignndcjblfocaaDoorRegions
namespace Go.Proofs.YtignndcjblfocaaDoor
set_option linter.unusedVariables false
set_option linter.unusedSimpArgs false
open Go.RowKit Go.Proofs.YtignndcjblfocaaDoor.GraphPlain
def natG (R : List (List Int)) : Gr := R.map fun r => r.map Int.toNat
theorem rightN_nat {nn : Nat} {R : List (List Int)} (h : rightN nn R = true) : intG (natG R) = R ∧ okG (natG R) ∧ R.length = nn := by
  unfold rightN at h
  obtain ⟨h1, h2⟩ := Bool.and_eq_true_iff.1 h
  have h2 := of_decide_eq_true h2
  have hr : ∀ r ∈ R, ∀ x ∈ r, 0 ≤ x ∧ x < (nn : Int) := by
    intro r hr x hx
    have := List.all_eq_true.1 h1 r hr
    have hno : r.any (oddN nn) = false := by simpa using this
    have := List.any_eq_false.1 hno x hx
    unfold oddN at this
    simp at this
    omega
  refine ⟨?_, ?_, h2⟩
  · unfold intG natG
    rw [List.map_map]
    have : ∀ r ∈ R, ((fun r => List.map Int.ofNat r) ∘ fun r => List.map Int.toNat r) r = r := by
      intro r hrm
      show List.map Int.ofNat (List.map Int.toNat r) = r
      rw [List.map_map]
      have : ∀ x ∈ r, (Int.ofNat ∘ Int.toNat) x = x := fun x hx => by have := (hr r hrm x hx).1; show ((x.toNat : Nat) : Int) = x; omega
      exact (List.map_congr_left this).trans (List.map_id' r)
    exact (List.map_congr_left this).trans (List.map_id' R)
  · intro i k hk
    unfold row natG at hk
    rw [List.getD_eq_getElem?_getD, List.getElem?_map] at hk
    cases hx : R[i]? with
    | none => rw [hx] at hk; cases hk
    | some r =>
      rw [hx] at hk
      simp only [Option.map_some, Option.getD_some] at hk
      obtain ⟨x, hx', rfl⟩ := List.mem_map.1 hk
      have := hr r (List.mem_of_getElem? hx) x hx'
      unfold natG
      rw [List.length_map]
      omega
theorem natG_len (R : List (List Int)) : (natG R).length = R.length := by simp [natG]
theorem rows_few {R : List (List Int)} {b : Nat} (h : sumL R ≤ b) : ∀ r ∈ R, r.length ≤ b := fun r hr => Nat.le_trans (sumL_mem hr) h
set_option maxRecDepth 100000 in
set_option maxHeartbeats 4000000 in
theorem behind_great (An : Option Addr) (nn cn : Nat) (At : Option Addr) (nt ct : Nat) (R : List (List Int)) (w : World) (hg : GrAt w At nt R) (hs : ∀ r ∈ R, r.length ≤ 17592186044416) (hnn : nn ≤ maxLen) (hnt : nt ≤ maxLen) (hf : FormsAt w) (ht : Tabs w) (hgr : greatN nn nt R = true) :
    Calls Tryd.prog 4 #[grV An nn cn At nt ct] w fun e w' => e = .returned (.bool true) ∧ Below w.heap.size w w' := by
  unfold maxLen at hnn hnt
  obtain ⟨W, hW, hB, hz, c0, c1⟩ := grBox w An nn cn At nt ct 30
  have C := rgreat_any An nn cn At nt ct R W (hg.below hB) hs hnt hnn
  rw [hgr] at C
  have C := Lib.hid C
  have HF := Lib.hid (hf.below hB hf.size)
  have HT := Lib.hid (ht.below hB ht.size)
  have HB := Lib.hid hB
  clear hg hs hf ht hB hgr
  unfold grV at C ⊢
  go_enter Tryd.func4, Tryd.ntmps4
  go_wp2_with fail
  refine C.out.mono ?_
  rintro e w1 ⟨rfl, hB1⟩
  have L := Lib.hid (live19_any w1 (HF.out.below hB1 HF.out.size) (HT.out.below hB1 HT.out.size))
  have HB1 := Lib.hid (HB.out.trans (hB1.mono HB.out.size))
  clear hB1 HF HT C HB
  go_wp2_with fail
  refine L.out.mono ?_
  rintro e w2 ⟨rfl, hB2⟩
  have HB2 := Lib.hid (HB1.out.trans (hB2.mono HB1.out.size))
  clear hB2
  go_wp2
  go_ret
  exact ⟨rfl, HB2.out⟩
set_option maxRecDepth 100000 in
set_option maxHeartbeats 4000000 in
theorem behind_bad (An : Option Addr) (nn cn : Nat) (At : Option Addr) (nt ct : Nat) (R : List (List Int)) (w : World) (hg : GrAt w At nt R) (hf : FormsAt w) (ht : Tabs w) (hgr : greatN nn nt R = false) (hr : rightN nn R = false) :
    Calls Tryd.prog 4 #[grV An nn cn At nt ct] w fun e w' => e = .returned (.bool true) ∧ Below w.heap.size w w' := by
  have HRT := Lib.hid hr
  clear hr
  obtain ⟨W, hW, hB, hz, c0, c1⟩ := grBox w An nn cn At nt ct 30
  obtain ⟨hs1, hs2, hs3⟩ := greatN_no hg.1 hgr
  have hfew := rows_few hs3
  have C := rgreat_any An nn cn At nt ct R W (hg.below hB) (fun r hr => Nat.le_trans (hfew r hr) (by omega)) (by omega) (by omega)
  rw [hgr] at C
  have C := Lib.hid C
  have HF := Lib.hid (hf.below hB hf.size)
  have HT := Lib.hid (ht.below hB ht.size)
  have HB := Lib.hid hB
  have HG := Lib.hid (hg.below hB)
  have HL := Lib.hid (fun r hr => Nat.le_trans (hfew r hr) (show 100 ≤ 9223372036854775806 by omega))
  clear hg hf ht hB hgr hfew
  unfold grV at C ⊢
  go_enter Tryd.func4, Tryd.ntmps4
  go_wp2_with fail
  refine C.out.mono ?_
  rintro e w1 ⟨rfl, hB1⟩
  have d0 := (hB1.cell (p := ⟨w.heap.size, 0, none⟩) (by show w.heap.size < _; omega)).trans c0
  have d1 := (hB1.cell (p := ⟨w.heap.size, 1, none⟩) (by show w.heap.size < _; omega)).trans c1
  have HG1 := Lib.hid (HG.out.below hB1)
  have HF1 := Lib.hid (HF.out.below hB1 HF.out.size)
  have HT1 := Lib.hid (HT.out.below hB1 HT.out.size)
  have HB1 := Lib.hid (HB.out.trans (hB1.mono HB.out.size))
  have hz1 := hB1.size
  clear hB1 HF HT C HB HG c0 c1
  obtain ⟨W2, hW2, hB2, hz2, c0, c1⟩ := grBox w1 An nn cn At nt ct 28
  have q0 := (hB2.cell (p := ⟨w.heap.size, 0, none⟩) (by show w.heap.size < _; omega)).trans d0
  have q1 := (hB2.cell (p := ⟨w.heap.size, 1, none⟩) (by show w.heap.size < _; omega)).trans d1
  have HG2 := Lib.hid (HG1.out.below hB2)
  have HF2 := Lib.hid (HF1.out.below hB2 HF1.out.size)
  have HT2 := Lib.hid (HT1.out.below hB2 HT1.out.size)
  have HB2 := Lib.hid (HB1.out.trans (hB2.mono HB1.out.size))
  clear hB2 HG1 HF1 HT1 HB1
  have C := Lib.hid (order_bad An nn cn At nt ct R W2 HG2.out HL.out (by omega) HRT.out)
  unfold grV at C
  go_wp2_with fail
  refine C.out.mono ?_
  rintro e w3 ⟨rfl, hB⟩
  clear C
  have c0' := (hB.cell (p := ⟨w1.heap.size, 0, none⟩) (by show w1.heap.size < _; omega)).trans c0
  have c1' := (hB.cell (p := ⟨w1.heap.size, 1, none⟩) (by show w1.heap.size < _; omega)).trans c1
  have q0' := (hB.cell (p := ⟨w.heap.size, 0, none⟩) (by show w.heap.size < _; omega)).trans q0
  have q1' := (hB.cell (p := ⟨w.heap.size, 1, none⟩) (by show w.heap.size < _; omega)).trans q1
  have HG3 := Lib.hid (HG2.out.below hB)
  have HF3 := Lib.hid (HF2.out.below hB HF2.out.size)
  have HT3 := Lib.hid (HT2.out.below hB HT2.out.size)
  have HB3 := Lib.hid (HB2.out.trans (hB.mono HB2.out.size))
  have hz3 := hB.size
  clear hB HG2 HF2 HT2 HB2 c0 c1 q0 q1
  have c0 := c0'
  have c1 := c1'
  have q0 := q0'
  have q1 := q1'
  clear c0' c1' q0' q1'
  have C := Lib.hid (depths_bad An nn cn At nt ct R w3 HG3.out HL.out (by omega) HRT.out)
  unfold grV at C
  go_wp2_with fail
  refine C.out.mono ?_
  rintro e w4 ⟨rfl, hB⟩
  clear C
  have c0' := (hB.cell (p := ⟨w1.heap.size, 0, none⟩) (by show w1.heap.size < _; omega)).trans c0
  have c1' := (hB.cell (p := ⟨w1.heap.size, 1, none⟩) (by show w1.heap.size < _; omega)).trans c1
  have q0' := (hB.cell (p := ⟨w.heap.size, 0, none⟩) (by show w.heap.size < _; omega)).trans q0
  have q1' := (hB.cell (p := ⟨w.heap.size, 1, none⟩) (by show w.heap.size < _; omega)).trans q1
  have HG4 := Lib.hid (HG3.out.below hB)
  have HF4 := Lib.hid (HF3.out.below hB HF3.out.size)
  have HT4 := Lib.hid (HT3.out.below hB HT3.out.size)
  have HB4 := Lib.hid (HB3.out.trans (hB.mono HB3.out.size))
  have hz4 := hB.size
  clear hB HG3 HF3 HT3 HB3 c0 c1 q0 q1
  have c0 := c0'
  have c1 := c1'
  have q0 := q0'
  have q1 := q1'
  clear c0' c1' q0' q1'
  have L := Lib.hid (live19_any w4 HF4.out HT4.out)
  go_wp2_with fail
  refine L.out.mono ?_
  rintro e w5 ⟨rfl, hB⟩
  have HB5 := Lib.hid (HB4.out.trans (hB.mono HB4.out.size))
  clear hB
  go_wp2
  go_ret
  exact ⟨rfl, HB5.out⟩
set_option maxRecDepth 100000 in
set_option maxHeartbeats 4000000 in
theorem behind_loop (An : Option Addr) (nn cn : Nat) (At : Option Addr) (nt ct : Nat) (R : List (List Int)) (w : World) (hg : GrAt w At nt R) (hf : FormsAt w) (ht : Tabs w) (hgr : greatN nn nt R = false) (hr : rightN nn R = true) (ho : (orderN (natG R)).length < nt) :
    Calls Tryd.prog 4 #[grV An nn cn At nt ct] w fun e w' => e = .returned (.bool true) ∧ Below w.heap.size w w' := by
  have HRT := Lib.hid hr
  obtain ⟨hR1, hR2, hR3⟩ := rightN_nat hr
  have HR1 := Lib.hid hR1
  have HR2 := Lib.hid hR2
  clear hr hR1 hR2 hR3
  obtain ⟨W, hW, hB, hz, c0, c1⟩ := grBox w An nn cn At nt ct 30
  obtain ⟨hs1, hs2, hs3⟩ := greatN_no hg.1 hgr
  have hfew := rows_few hs3
  have C := rgreat_any An nn cn At nt ct R W (hg.below hB) (fun r hr => Nat.le_trans (hfew r hr) (by omega)) (by omega) (by omega)
  rw [hgr] at C
  have C := Lib.hid C
  have HF := Lib.hid (hf.below hB hf.size)
  have HT := Lib.hid (ht.below hB ht.size)
  have HB := Lib.hid hB
  have HG := Lib.hid (hg.below hB)
  have HL := Lib.hid (fun r hr => Nat.le_trans (hfew r hr) (show 100 ≤ 9223372036854775806 by omega))
  clear hg hf ht hB hgr hfew
  unfold grV at C ⊢
  go_enter Tryd.func4, Tryd.ntmps4
  go_wp2_with fail
  refine C.out.mono ?_
  rintro e w1 ⟨rfl, hB1⟩
  have d0 := (hB1.cell (p := ⟨w.heap.size, 0, none⟩) (by show w.heap.size < _; omega)).trans c0
  have d1 := (hB1.cell (p := ⟨w.heap.size, 1, none⟩) (by show w.heap.size < _; omega)).trans c1
  have HG1 := Lib.hid (HG.out.below hB1)
  have HF1 := Lib.hid (HF.out.below hB1 HF.out.size)
  have HT1 := Lib.hid (HT.out.below hB1 HT.out.size)
  have HB1 := Lib.hid (HB.out.trans (hB1.mono HB.out.size))
  have hz1 := hB1.size
  clear hB1 HF HT C HB HG c0 c1
  obtain ⟨W2, hW2, hB2, hz2, c0, c1⟩ := grBox w1 An nn cn At nt ct 28
  have q0 := (hB2.cell (p := ⟨w.heap.size, 0, none⟩) (by show w.heap.size < _; omega)).trans d0
  have q1 := (hB2.cell (p := ⟨w.heap.size, 1, none⟩) (by show w.heap.size < _; omega)).trans d1
  have HG2 := Lib.hid (HG1.out.below hB2)
  have HF2 := Lib.hid (HF1.out.below hB2 HF1.out.size)
  have HT2 := Lib.hid (HT1.out.below hB2 HT1.out.size)
  have HB2 := Lib.hid (HB1.out.trans (hB2.mono HB1.out.size))
  clear hB2 HG1 HF1 HT1 HB1
  have C := order_good An nn cn At nt ct (natG R) W2 (by rw [HR1.out]; exact HG2.out) HR2.out (by rw [HR1.out]; exact HL.out) (by omega) (by rw [HR1.out]; exact HRT.out)
  have C := Lib.hid C
  unfold grV at C
  go_wp2_with fail
  refine C.out.mono ?_
  rintro e w3 ⟨h, hB⟩
  rcases h with ⟨_, rfl⟩ | ⟨h, _⟩
  rotate_left 1
  · exact absurd h (by omega)
  clear C
  have c0' := (hB.cell (p := ⟨w1.heap.size, 0, none⟩) (by show w1.heap.size < _; omega)).trans c0
  have c1' := (hB.cell (p := ⟨w1.heap.size, 1, none⟩) (by show w1.heap.size < _; omega)).trans c1
  have q0' := (hB.cell (p := ⟨w.heap.size, 0, none⟩) (by show w.heap.size < _; omega)).trans q0
  have q1' := (hB.cell (p := ⟨w.heap.size, 1, none⟩) (by show w.heap.size < _; omega)).trans q1
  have HG3 := Lib.hid (HG2.out.below hB)
  have HF3 := Lib.hid (HF2.out.below hB HF2.out.size)
  have HT3 := Lib.hid (HT2.out.below hB HT2.out.size)
  have HB3 := Lib.hid (HB2.out.trans (hB.mono HB2.out.size))
  have hz3 := hB.size
  clear hB HG2 HF2 HT2 HB2 c0 c1 q0 q1
  have c0 := c0'
  have c1 := c1'
  have q0 := q0'
  have q1 := q1'
  clear c0' c1' q0' q1'
  have C := depths_good An nn cn At nt ct (natG R) w3 (by rw [HR1.out]; exact HG3.out) HR2.out (by rw [HR1.out]; exact HL.out) (by omega) (by rw [HR1.out]; exact HRT.out)
  have C := Lib.hid C
  unfold grV at C
  go_wp2_with fail
  refine C.out.mono ?_
  rintro e w4 ⟨h, hB⟩
  rcases h with ⟨_, rfl⟩ | ⟨h, _⟩
  rotate_left 1
  · exact absurd h (by omega)
  clear C
  have c0' := (hB.cell (p := ⟨w1.heap.size, 0, none⟩) (by show w1.heap.size < _; omega)).trans c0
  have c1' := (hB.cell (p := ⟨w1.heap.size, 1, none⟩) (by show w1.heap.size < _; omega)).trans c1
  have q0' := (hB.cell (p := ⟨w.heap.size, 0, none⟩) (by show w.heap.size < _; omega)).trans q0
  have q1' := (hB.cell (p := ⟨w.heap.size, 1, none⟩) (by show w.heap.size < _; omega)).trans q1
  have HG4 := Lib.hid (HG3.out.below hB)
  have HF4 := Lib.hid (HF3.out.below hB HF3.out.size)
  have HT4 := Lib.hid (HT3.out.below hB HT3.out.size)
  have HB4 := Lib.hid (HB3.out.trans (hB.mono HB3.out.size))
  have hz4 := hB.size
  clear hB HG3 HF3 HT3 HB3 c0 c1 q0 q1
  have c0 := c0'
  have c1 := c1'
  have q0 := q0'
  have q1 := q1'
  clear c0' c1' q0' q1'
  have L := Lib.hid (live19_any w4 HF4.out HT4.out)
  go_wp2_with fail
  refine L.out.mono ?_
  rintro e w5 ⟨rfl, hB⟩
  have HB5 := Lib.hid (HB4.out.trans (hB.mono HB4.out.size))
  clear hB
  go_wp2
  go_ret
  exact ⟨rfl, HB5.out⟩
set_option maxRecDepth 100000 in
set_option maxHeartbeats 8000000 in
theorem behind_good (An : Option Addr) (nn cn : Nat) (At : Option Addr) (nt ct : Nat) (R : List (List Int)) (w : World) (hg : GrAt w At nt R) (hf : FormsAt w) (ht : Tabs w) (hgr : greatN nn nt R = false) (hr : rightN nn R = true) (ho : (orderN (natG R)).length = nt) :
    Calls Tryd.prog 4 #[grV An nn cn At nt ct] w fun e w' => e = .returned (.bool true) ∧ Below w.heap.size w w' := by
  have HRT := Lib.hid hr
  obtain ⟨hR1, hR2, hR3⟩ := rightN_nat hr
  have HR1 := Lib.hid hR1
  have HR2 := Lib.hid hR2
  have HN := Lib.hid (show (natG R).length = nt by rw [natG_len]; exact hg.1)
  have HGO := Lib.hid (orderN_good (natG R))
  clear hr hR1 hR2 hR3
  obtain ⟨W, hW, hB, hz, c0, c1⟩ := grBox w An nn cn At nt ct 30
  obtain ⟨hs1, hs2, hs3⟩ := greatN_no hg.1 hgr
  have hfew := rows_few hs3
  have C := rgreat_any An nn cn At nt ct R W (hg.below hB) (fun r hr => Nat.le_trans (hfew r hr) (by omega)) (by omega) (by omega)
  rw [hgr] at C
  have C := Lib.hid C
  have HF := Lib.hid (hf.below hB hf.size)
  have HT := Lib.hid (ht.below hB ht.size)
  have HB := Lib.hid hB
  have HG := Lib.hid (hg.below hB)
  have HL := Lib.hid (fun r hr => Nat.le_trans (hfew r hr) (show 100 ≤ 9223372036854775806 by omega))
  clear hg hf ht hB hgr hfew
  unfold grV at C ⊢
  go_enter Tryd.func4, Tryd.ntmps4
  go_wp2_with fail
  refine C.out.mono ?_
  rintro e w1 ⟨rfl, hB1⟩
  have d0 := (hB1.cell (p := ⟨w.heap.size, 0, none⟩) (by show w.heap.size < _; omega)).trans c0
  have d1 := (hB1.cell (p := ⟨w.heap.size, 1, none⟩) (by show w.heap.size < _; omega)).trans c1
  have HG1 := Lib.hid (HG.out.below hB1)
  have HF1 := Lib.hid (HF.out.below hB1 HF.out.size)
  have HT1 := Lib.hid (HT.out.below hB1 HT.out.size)
  have HB1 := Lib.hid (HB.out.trans (hB1.mono HB.out.size))
  have hz1 := hB1.size
  clear hB1 HF HT C HB HG c0 c1
  obtain ⟨W2, hW2, hB2, hz2, c0, c1⟩ := grBox w1 An nn cn At nt ct 28
  have q0 := (hB2.cell (p := ⟨w.heap.size, 0, none⟩) (by show w.heap.size < _; omega)).trans d0
  have q1 := (hB2.cell (p := ⟨w.heap.size, 1, none⟩) (by show w.heap.size < _; omega)).trans d1
  have HG2 := Lib.hid (HG1.out.below hB2)
  have HF2 := Lib.hid (HF1.out.below hB2 HF1.out.size)
  have HT2 := Lib.hid (HT1.out.below hB2 HT1.out.size)
  have HB2 := Lib.hid (HB1.out.trans (hB2.mono HB1.out.size))
  clear hB2 HG1 HF1 HT1 HB1
  have C := order_good An nn cn At nt ct (natG R) W2 (by rw [HR1.out]; exact HG2.out) HR2.out (by rw [HR1.out]; exact HL.out) (by omega) (by rw [HR1.out]; exact HRT.out)
  have C := Lib.hid C
  unfold grV at C
  go_wp2_with fail
  refine C.out.mono ?_
  rintro e w3 ⟨h, hB⟩
  rcases h with ⟨h, _⟩ | ⟨_, A2, c2, rfl, hown⟩
  · exact absurd h (by omega)
  have HI3 := Lib.hid (natInts ho.symm hown)
  clear C hown
  have c0' := (hB.cell (p := ⟨w1.heap.size, 0, none⟩) (by show w1.heap.size < _; omega)).trans c0
  have c1' := (hB.cell (p := ⟨w1.heap.size, 1, none⟩) (by show w1.heap.size < _; omega)).trans c1
  have q0' := (hB.cell (p := ⟨w.heap.size, 0, none⟩) (by show w.heap.size < _; omega)).trans q0
  have q1' := (hB.cell (p := ⟨w.heap.size, 1, none⟩) (by show w.heap.size < _; omega)).trans q1
  have HG3 := Lib.hid (HG2.out.below hB)
  have HF3 := Lib.hid (HF2.out.below hB HF2.out.size)
  have HT3 := Lib.hid (HT2.out.below hB HT2.out.size)
  have HB3 := Lib.hid (HB2.out.trans (hB.mono HB2.out.size))
  have hz3 := hB.size
  clear hB HG2 HF2 HT2 HB2 c0 c1 q0 q1
  have c0 := c0'
  have c1 := c1'
  have q0 := q0'
  have q1 := q1'
  clear c0' c1' q0' q1'
  have C := depths_good An nn cn At nt ct (natG R) w3 (by rw [HR1.out]; exact HG3.out) HR2.out (by rw [HR1.out]; exact HL.out) (by omega) (by rw [HR1.out]; exact HRT.out)
  have C := Lib.hid C
  unfold grV at C
  go_wp2_with fail
  refine C.out.mono ?_
  rintro e w4 ⟨h, hB⟩
  rcases h with ⟨h, _⟩ | ⟨_, A3, c3, rfl, hown⟩
  · exact absurd h (by omega)
  have HI4 := Lib.hid (HI3.out.below hB)
  have HJ4 := Lib.hid (natInts (show nt = (deepO (natG R) (orderN (natG R))).length by rw [deepO_len, HN.out]) hown)
  clear C hown HI3
  have c0' := (hB.cell (p := ⟨w1.heap.size, 0, none⟩) (by show w1.heap.size < _; omega)).trans c0
  have c1' := (hB.cell (p := ⟨w1.heap.size, 1, none⟩) (by show w1.heap.size < _; omega)).trans c1
  have q0' := (hB.cell (p := ⟨w.heap.size, 0, none⟩) (by show w.heap.size < _; omega)).trans q0
  have q1' := (hB.cell (p := ⟨w.heap.size, 1, none⟩) (by show w.heap.size < _; omega)).trans q1
  have HG4 := Lib.hid (HG3.out.below hB)
  have HF4 := Lib.hid (HF3.out.below hB HF3.out.size)
  have HT4 := Lib.hid (HT3.out.below hB HT3.out.size)
  have HB4 := Lib.hid (HB3.out.trans (hB.mono HB3.out.size))
  have hz4 := hB.size
  clear hB HG3 HF3 HT3 HB3 c0 c1 q0 q1
  have c0 := c0'
  have c1 := c1'
  have q0 := q0'
  have q1 := q1'
  clear c0' c1' q0' q1'
  obtain ⟨i0, hi0, hi1, hi2, hi3⟩ := info_parts Tryd.infoInt
  clear c0 c1
  go_wp2_with (at_make; refine wpList_make_full _ rfl _ _ 35 rfl w4.heap.size 3 i0 (.int .i64 0) 1 Tryd.underlying35 hi0 hi1 hi2 .i64 .i64 _ _ nt rfl rfl rfl rfl ?m1 ?m2 ?m3 ?_)
  case m1 => rw [hi3]; omega
  case m2 => unfold maxLen; omega
  case m3 => omega
  intro w5 hown hgrow
  have HP : Hid (w5.ownsRow w4.heap.size 3 1 (.slice (some ⟨w4.heap.size, 0, none⟩) nt nt) nt (natCells (placeTo (natG R) (orderN (natG R)) 0))) := by
    show w5.ownsRow _ _ _ _ _ _
    have e : natCells (placeTo (natG R) (orderN (natG R)) 0) = List.replicate nt (.int .i64 0) := by
      show natCells (List.replicate (natG R).length 0) = _
      rw [HN.out]; simp [natCells]
    rw [e, ← toList_madeCells_one, show (#[Value.int .i64 0] : Array Value) = (Value.int .i64 0).cells from rfl]
    simpa [Value.cells] using hown
  have HW := Lib.hid ((Below.refl w4.heap.size w4).grown hgrow (Nat.le_refl _) (fun k h => by cases h))
  clear hown hgrow
  go_wp2_with fail
  go_loopg [9] nt (fun g v9 wr => ∃ m : Nat, g + m = nt ∧ v9 = .int .i64 m ∧ Hid (wr.ownsRow w4.heap.size 3 1 (.slice (some ⟨w4.heap.size, 0, none⟩) nt nt) nt (natCells (placeTo (natG R) (orderN (natG R)) m))) ∧ Hid (Below w4.heap.size w4 wr))
  case atStart => exact ⟨0, rfl, rfl, HP, HW⟩
  case round =>
    obtain ⟨m, hgm, rfl, HP, HW⟩ := hrel
    by_cases hlt : m < nt
    · have b0 : (0 : Int) ≤ (m : Int) := by omega
      have b1 : (m : Int) < (nt : Int) := by omega
      obtain ⟨b, y, hb, hy, hbb, y0⟩ := HI4.out.2 m hlt
      subst hb
      have hlm : m < (orderN (natG R)).length := by omega
      have hyi : y = ((sn (orderN (natG R)) m : Nat) : Int) := by
        rw [List.getElem?_map, List.getElem?_eq_getElem hlm] at hy
        unfold sn
        rw [List.getD_eq_getElem?_getD, List.getElem?_eq_getElem hlm]
        simpa using hy.symm
      subst hyi
      have hin : sn (orderN (natG R)) m < nt := by rw [← HN.out]; exact HGO.out.bound _ (sn_mem hlm)
      have y1 := (HW.out.cell (p := b.add m) (by rw [addBlockT]; exact hbb)).trans y0
      have HE : Hid (placeTo (natG R) (orderN (natG R)) (m + 1) = (placeTo (natG R) (orderN (natG R)) m).set (sn (orderN (natG R)) m) m) := rfl
      clear hy y0
      generalize sn (orderN (natG R)) m = i at *
      have f0 := own_cellG HP.out (k := i) (by rw [placeTo_len, HN.out]; exact hin)
      have f1 := HP.out.frozenAt i
      have HST := HP.out.stored i (.int .i64 (m : Int))
      rw [natCells_set, ← HE.out] at HST
      have HS1 := Lib.hid HST.1
      have HS2 := Lib.hid (HW.out.setCell (p := ⟨w4.heap.size, i, none⟩) (Nat.le_refl _) (.int .i64 (m : Int)))
      have b2 : (0 : Int) ≤ (i : Int) := by omega
      have b3 : (i : Int) < (nt : Int) := by omega
      clear HST
      go_wp2
      go_roundg (gk - 1)
      case measure => omega
      case rel => exact ⟨m + 1, by omega, by go_num, HS1, HS2⟩
    · obtain rfl : m = nt := by omega
      clear q0
      have r1 := (HW.out.cell (p := ⟨w.heap.size, 1, none⟩) (by show w.heap.size < _; omega)).trans q1
      have HG5 := Lib.hid (HG4.out.below HW.out)
      have HI5 := HI4
      have HJ5 := Lib.hid (HJ4.out.below HW.out)
      have HF5 := Lib.hid (HF4.out.below HW.out HF4.out.size)
      have HT5 := Lib.hid (HT4.out.below HW.out HT4.out.size)
      have HB5 := Lib.hid (HB4.out.trans (HW.out.mono HB4.out.size))
      have hz5 := HW.out.size
      clear HG4 HI4 HJ4 HF4 HT4 HB4 HW q1
      obtain ⟨wo, rfl⟩ : ∃ wo : World, wo = wr := ⟨_, rfl⟩
      go_wp2_with fail
      go_loopg [10] m (fun g v10 wr2 => ∃ i d : Nat, g + i = m ∧ v10 = .int .i64 i ∧ wr2 = wo.drewN d)
      case atStart => exact ⟨0, 0, rfl, rfl, rfl⟩
      case round =>
        obtain ⟨i, d, hgi, rfl, rfl⟩ := hrel
        obtain ⟨go, hgo⟩ : ∃ go, go = gk := ⟨_, rfl⟩
        rw [← hgo] at hgi
        by_cases hli : i < m
        · have b0 : (0 : Int) ≤ (i : Int) := by omega
          have b1 : (i : Int) < (m : Int) := by omega
          obtain ⟨a, B, r, c, ha, hx, hab, g0, gi⟩ := HG5.out.2 i hli
          subst ha
          have hrr : r = (row (natG R) i).map Int.ofNat := (intG_at (by rw [HR1.out]; exact hx)).1
          have hrl : r.length = (row (natG R) i).length := by rw [hrr, List.length_map]
          have HRI := Lib.hid (show IntsAt wo B (row (natG R) i).length ((row (natG R) i).map Int.ofNat) by rw [← hrr, ← hrl]; exact gi)
          rw [hrl] at g0
          have hfew := HL.out r (memOf hx)
          rw [hrl] at hfew
          clear hx gi hrr hrl
          go_wp2_with fail
          go_loopg [11] (row (natG R) i).length (fun g v11 wr3 => ∃ k d' : Nat, g + k = (row (natG R) i).length ∧ v11 = .int .i64 k ∧ wr3 = wo.drewN d')
          case atStart => exact ⟨0, d, rfl, rfl, rfl⟩
          case round =>
            obtain ⟨k, d', hgk, rfl, rfl⟩ := hrel
            by_cases hlk : k < (row (natG R) i).length
            · have b2 : (0 : Int) ≤ (k : Int) := by omega
              have b3 : (k : Int) < ((row (natG R) i).length : Int) := by omega
              obtain ⟨b, y, hb, hy, _, y0⟩ := HRI.out.2 k hlk
              subst hb
              rw [List.getElem?_map, List.getElem?_eq_getElem hlk] at hy
              obtain ⟨q, hq⟩ : ∃ q, (row (natG R) i)[k] = q := ⟨_, rfl⟩
              rw [hq] at hy
              obtain rfl : (q : Int) = y := by simpa using hy
              have hqi : q ∈ row (natG R) i := by rw [← hq]; exact List.getElem_mem hlk
              have hqm : q < m := by rw [← HN.out]; exact HR2.out _ _ hqi
              have hbh := behind HGO.out (by rw [HN.out]; exact ho) hqi
              rw [ho] at hbh
              have p0 := own_cellG HP.out (k := q) (by rw [placeTo_len, HN.out]; exact hqm)
              have p1 := own_cellG HP.out (k := i) (by rw [placeTo_len, HN.out]; exact hli)
              obtain ⟨b', z, hb', hz', _, z0⟩ := HJ5.out.2 q hqm
              subst hb'
              obtain ⟨b'', z', hb'', hz'', _, z1⟩ := HJ5.out.2 i hli
              cases hb''
              have eD : ∀ {j : Nat} {z : Int}, ((deepO (natG R) (orderN (natG R))).map Int.ofNat)[j]? = some z → z = ((sn (deepO (natG R) (orderN (natG R))) j : Nat) : Int) := by
                intro j z h
                rw [List.getElem?_map] at h
                unfold sn
                rw [List.getD_eq_getElem?_getD]
                cases hd : (deepO (natG R) (orderN (natG R)))[j]? with
                | none => rw [hd] at h; cases h
                | some x => rw [hd] at h; simpa using h.symm
              obtain rfl := eD hz'
              obtain rfl := eD hz''
              obtain ⟨n1, n2⟩ := hbh
              clear hz' hz'' eD hy hq hqi
              generalize sn (placeTo (natG R) (orderN (natG R)) m) q = u1 at *
              generalize sn (placeTo (natG R) (orderN (natG R)) m) i = u2 at *
              generalize sn (deepO (natG R) (orderN (natG R))) q = u3 at *
              generalize sn (deepO (natG R) (orderN (natG R))) i = u4 at *
              have t1 : decide ((u2 : Int) ≤ (u1 : Int)) = false := decide_eq_false (by omega)
              have t2 : decide ((u4 : Int) ≤ (u3 : Int)) = false := decide_eq_false (by omega)
              have q0 : (0 : Int) ≤ (q : Int) := by omega
              have q1 : (q : Int) < (m : Int) := by omega
              go_wp2_with fail
              go_quiet (fail)
              go_wp2
              go_roundg (gk - 1)
              case measure => omega
              case rel => exact ⟨k + 1, _, by omega, by go_num, rfl⟩
            · obtain rfl : k = (row (natG R) i).length := by omega
              go_wp2
              go_roundg (go - 1)
              case measure => omega
              case rel => exact ⟨i + 1, d', by omega, by go_num, rfl⟩
        · obtain rfl : i = m := by omega
          have HBd := Lib.hid (HB5.out.trans (below_drawn _ wo d))
          have L := Lib.hid (live19_any (wo.drewN d) (HF5.out.below (below_drawn _ wo d) HF5.out.size) (HT5.out.below (below_drawn _ wo d) HT5.out.size))
          go_wp2_with fail
          refine L.out.mono ?_
          rintro e w9 ⟨rfl, hB⟩
          have HB9 := Lib.hid (HBd.out.trans (hB.mono HBd.out.size))
          clear hB
          go_wp2
          go_ret
          exact ⟨rfl, HB9.out⟩
theorem graphBehind_any (An : Option Addr) (nn cn : Nat) (At : Option Addr) (nt ct : Nat) (R : List (List Int)) (w : World) (hg : GrAt w At nt R) (hs : ∀ r ∈ R, r.length ≤ 17592186044416) (hnn : nn ≤ maxLen) (hnt : nt ≤ maxLen) (hf : FormsAt w) (ht : Tabs w) :
    Calls Tryd.prog 4 #[grV An nn cn At nt ct] w fun e w' => e = .returned (.bool true) ∧ Below w.heap.size w w' := by
  cases hgr : greatN nn nt R with
  | true => exact behind_great An nn cn At nt ct R w hg hs hnn hnt hf ht hgr
  | false =>
    cases hr : rightN nn R with
    | false => exact behind_bad An nn cn At nt ct R w hg hf ht hgr hr
    | true =>
      have h1 := (orderN_good (natG R)).len
      rw [natG_len, hg.1] at h1
      rcases Nat.lt_or_ge (orderN (natG R)).length nt with h | h
      · exact behind_loop An nn cn At nt ct R w hg hf ht hgr hr h
      · exact behind_good An nn cn At nt ct R w hg hf ht hgr hr (by omega)
end Go.Proofs.YtignndcjblfocaaDoor
