/- The reference's Reach, and the law GraphReaches, walked. Conditions: the tables of chars and of utf hold what the text gives them. -/
import Derived.Test.YtignndcjblfocaaDoorGraphBehind
import Derived.Test.YtignndcjblfocaaDoorGraphReach
import Derived.Test.YtignndcjblfocaaDoorRegions
namespace Go.Proofs.YtignndcjblfocaaDoor
set_option linter.unusedVariables false
set_option linter.unusedSimpArgs false
open Go.RowKit Go.Proofs.YtignndcjblfocaaDoor.GraphPlain
def reachK (G : Gr) (f k : Nat) : List Nat := (List.range k).filter fun x => mk (leadsN G f) x || decide (x = f)
theorem reachK_next (G : Gr) (f k : Nat) : reachK G f (k + 1) = if (mk (leadsN G f) k || decide (k = f)) = true then reachK G f k ++ [k] else reachK G f k := by
  unfold reachK
  rw [List.range_succ, List.filter_append]
  cases h : (mk (leadsN G f) k || decide (k = f)) with
  | true => rw [if_pos rfl]; simp only [List.filter_cons, h]; simp
  | false => rw [if_neg (by decide)]; simp only [List.filter_cons, h]; simp
theorem reachK_len (G : Gr) (f k : Nat) : (reachK G f k).length ≤ k := by
  have := List.length_filter_le (fun x => mk (leadsN G f) x || decide (x = f)) (List.range k)
  rw [List.length_range] at this; exact this
set_option maxRecDepth 100000 in
set_option maxHeartbeats 8000000 in
theorem rreach_any (An : Option Addr) (nn cn : Nat) (At : Option Addr) (nt ct : Nat) (G : Gr) (f : Nat) (w : World) (hg : GrAt w At nt (intG G)) (hok : okG G) (hb : ∀ r ∈ intG G, r.length ≤ 9223372036854775806) (hnt : nt ≤ 1048576) (hf : f < nt) :
    Calls Tryd.prog 23 #[grV An nn cn At nt ct, .int .i64 f] w fun e w' => ∃ A c, e = .returned (.slice A (reachR G f).length c) ∧ w'.ownsRow w.heap.size 3 1 (.slice A (reachR G f).length c) (reachR G f).length (natCells (reachR G f)) ∧ Below w.heap.size w w' := by
  obtain ⟨i0, hi0, hz0, hz1, hz2⟩ := info_parts Tryd.infoInt
  obtain ⟨W, hW, hB, hz, c0, c1⟩ := grBox w An nn cn At nt ct 30
  have HN := Lib.hid (show G.length = nt by have := hg.1; unfold intG at this; simpa using this)
  have C := Lib.hid (leads_any An nn cn At nt ct G f W (hg.below hB) hok hb hnt hf)
  have HB := Lib.hid hB
  clear hB hg hb hok
  unfold grV at C ⊢
  go_enter Tryd.func23, Tryd.ntmps23
  go_wp2_with fail
  refine C.out.mono ?_
  rintro e w2 ⟨A2, c2, rfl, hown, hB2⟩
  have HL := Lib.hid hown
  have HB2 := Lib.hid (HB.out.trans (hB2.mono HB.out.size))
  have hz2' := hB2.size
  clear hown hB2 C c0 c1
  have R0 : Hid (w2.ownsRow w2.heap.size 3 1 (.slice none 0 0) (reachK G f 0).length (natCells (reachK G f 0))) := World.ownsRow_nil _ _ _ _
  go_wp2_with fail
  go_loopg [6, 7] nt (fun g v6 v7 wr => ∃ k : Nat, g + k = nt ∧ v7 = .int .i64 k ∧ Hid (wr.ownsRow w2.heap.size 3 1 v6 (reachK G f k).length (natCells (reachK G f k))) ∧ Hid (Below w2.heap.size w2 wr))
  case atStart => exact ⟨0, rfl, rfl, R0, Below.refl _ _⟩
  case round =>
    obtain ⟨k, hgk, rfl, HR, HW⟩ := hrel
    obtain ⟨A6, c6, rfl⟩ := own_shapeG HR.out
    have hlen := reachK_len G f k
    by_cases hlt : k < nt
    · have b0 : (0 : Int) ≤ (k : Int) := by omega
      have b1 : (k : Int) < (nt : Int) := by omega
      have f0 := own_boolG (ownB_belowG HL.out HW.out) (k := k) (by unfold leadsN; rw [roundsN_len, HN.out]; exact hlt)
      have HNX := Lib.hid (reachK_next G f k)
      have hsz := HW.out.size
      have yes : Hid ((mk (leadsN G f) k || decide (k = f)) = true → reachK G f (k + 1) = reachK G f k ++ [k]) := fun h => by rw [HNX.out, if_pos h]
      have no : Hid ((mk (leadsN G f) k || decide (k = f)) = false → reachK G f (k + 1) = reachK G f k) := fun h => by rw [HNX.out, if_neg (by rw [h]; decide)]
      clear HNX
      cases hm : mk (leadsN G f) k with
      | true =>
        rw [hm] at f0 yes
        have HN2 := Lib.hid (yes.out rfl)
        clear hm yes no
        generalize reachK G f k = l at *
        go_wp2_with (at_builtin; refine wpList_append_own _ rfl _ _ 35 rfl w2.heap.size 3 i0 (.int .i64 0) 1 8 Tryd.underlying35 hi0 hz0 hz1 hz2 rfl (by decide) _ _ _ rfl (HR.out.alloc _) ⟨_, 0, none⟩ 1 1 [.int .i64 k] rfl rfl ?c1 ?c2 ?c3 ?c4 ?c5 ?_)
        case c1 => exact oneCellG wr _ _
        case c2 => intro u hu; simp at hu; subst hu; rfl
        case c3 => unfold maxLen; omega
        case c4 => omega
        case c5 => simp; omega
        intro v' w3 hown' hgrow _
        have HR3 := Lib.hid hown'
        have HW3 := Lib.hid ((HW.out.alloc HW.out.size (.cells #[.int .i64 k] 3)).grown hgrow (by simp; omega) (fun g h => (HR.out.lt g h).1))
        clear hown' hgrow
        go_wp2
        go_roundg (gk - 1)
        case measure => omega
        case rel => exact ⟨k + 1, by omega, by go_num, by rw [HN2.out, natCells_snoc, List.length_append]; exact HR3.out, HW3⟩
      | false =>
        rw [hm] at f0 yes no
        by_cases hkf : k = f
        · have HN2 := Lib.hid (yes.out (by rw [decide_eq_true hkf]; rfl))
          have t1 : ((k : Int) == (f : Int)) = true := by simp; omega
          clear hm yes no hkf
          generalize reachK G f k = l at *
          go_wp2_with (at_builtin; refine wpList_append_own _ rfl _ _ 35 rfl w2.heap.size 3 i0 (.int .i64 0) 1 8 Tryd.underlying35 hi0 hz0 hz1 hz2 rfl (by decide) _ _ _ rfl (HR.out.alloc _) ⟨_, 0, none⟩ 1 1 [.int .i64 k] rfl rfl ?c1 ?c2 ?c3 ?c4 ?c5 ?_)
          case c1 => exact oneCellG wr _ _
          case c2 => intro u hu; simp at hu; subst hu; rfl
          case c3 => unfold maxLen; omega
          case c4 => omega
          case c5 => simp; omega
          intro v' w3 hown' hgrow _
          have HR3 := Lib.hid hown'
          have HW3 := Lib.hid ((HW.out.alloc HW.out.size (.cells #[.int .i64 k] 3)).grown hgrow (by simp; omega) (fun g h => (HR.out.lt g h).1))
          clear hown' hgrow
          go_wp2
          go_roundg (gk - 1)
          case measure => omega
          case rel => exact ⟨k + 1, by omega, by go_num, by rw [HN2.out, natCells_snoc, List.length_append]; exact HR3.out, HW3⟩
        · have HN2 := Lib.hid (no.out (by rw [decide_eq_false hkf]; rfl))
          have t1 : ((k : Int) == (f : Int)) = false := by simp; omega
          have HR3 := HR.out
          rw [← HN2.out] at HR3
          have HR4 := Lib.hid HR3
          have eL : Hid ((reachK G f (k + 1)).length = (reachK G f k).length) := by show _ = _; rw [HN2.out]
          clear hm yes no hkf HR3
          go_wp2
          go_roundg (gk - 1)
          case measure => omega
          case rel => exact ⟨k + 1, by omega, by go_num, by rw [← eL.out]; exact HR4.out, HW⟩
    · obtain rfl : k = nt := by omega
      have HE : Hid (reachK G f k = reachR G f) := by show _ = _; unfold reachK reachR; rw [HN.out]
      have HR2 := HR.out
      go_wp2
      go_ret
      rw [HE.out] at HR2 ⊢
      exact ⟨A6, c6, rfl, own_lowerG HR2 (by have := HB.out.size; omega), HB2.out.trans (HW.out.mono (by have := HB.out.size; omega))⟩
theorem natG_totalR {R : List (List Int)} : total (natG R) = sumL R := by
  unfold total natG sumL
  rw [List.map_map]
  congr 1
  apply List.map_congr_left
  intro r _
  simp
set_option maxRecDepth 100000 in
set_option maxHeartbeats 4000000 in
theorem reaches_great (An : Option Addr) (nn cn : Nat) (At : Option Addr) (nt ct : Nat) (R : List (List Int)) (f : Int) (w : World) (hg : GrAt w At nt R) (hs : ∀ r ∈ R, r.length ≤ 17592186044416) (hnn : nn ≤ maxLen) (hnt : nt ≤ maxLen) (hf : FormsAt w) (ht : Tabs w) (hgr : greatN nn nt R = true) :
    Calls Tryd.prog 6 #[grV An nn cn At nt ct, .int .i64 f] w fun e w' => e = .returned (.bool true) ∧ Below w.heap.size w w' := by
  unfold maxLen at hnn hnt
  obtain ⟨W, hW, hB, hz, c0, c1⟩ := grBox w An nn cn At nt ct 30
  have C := rgreat_any An nn cn At nt ct R W (hg.below hB) hs hnt hnn
  rw [hgr] at C
  have C := Lib.hid C
  have HF := Lib.hid (hf.below hB hf.size)
  have HT := Lib.hid (ht.below hB ht.size)
  have HB := Lib.hid hB
  clear hg hs hf ht hB hgr
  unfold grV at C ⊢
  go_enter Tryd.func6, Tryd.ntmps6
  go_wp2_with fail
  refine C.out.mono ?_
  rintro e w1 ⟨rfl, hB1⟩
  have L := Lib.hid (live19_any w1 (HF.out.below hB1 HF.out.size) (HT.out.below hB1 HT.out.size))
  have HB1 := Lib.hid (HB.out.trans (hB1.mono HB.out.size))
  clear hB1 HF HT C HB
  go_wp2_with fail
  refine L.out.mono ?_
  rintro e w2 ⟨rfl, hB2⟩
  have HB2 := Lib.hid (HB1.out.trans (hB2.mono HB1.out.size))
  clear hB2
  go_wp2
  go_ret
  exact ⟨rfl, HB2.out⟩
set_option maxRecDepth 100000 in
set_option maxHeartbeats 8000000 in
theorem reaches_bad (An : Option Addr) (nn cn : Nat) (At : Option Addr) (nt ct : Nat) (R : List (List Int)) (f : Int) (w : World) (hg : GrAt w At nt R) (hnil : GrNil w At nt) (hf : FormsAt w) (ht : Tabs w) (hgr : greatN nn nt R = false) (hr : rightN nn R = false) :
    Calls Tryd.prog 6 #[grV An nn cn At nt ct, .int .i64 f] w fun e w' => e = .returned (.bool true) ∧ Below w.heap.size w w' := by
  have HRT := Lib.hid hr
  clear hr
  obtain ⟨W, hW, hB, hz, c0, c1⟩ := grBox w An nn cn At nt ct 30
  obtain ⟨hs1, hs2, hs3⟩ := greatN_no hg.1 hgr
  have hfew := rows_few hs3
  have C := rgreat_any An nn cn At nt ct R W (hg.below hB) (fun r hr => Nat.le_trans (hfew r hr) (by omega)) (by omega) (by omega)
  rw [hgr] at C
  have C := Lib.hid C
  have HF := Lib.hid (hf.below hB hf.size)
  have HT := Lib.hid (ht.below hB ht.size)
  have HB := Lib.hid hB
  have HG := Lib.hid (hg.below hB)
  have HNL := Lib.hid (hnil.below hg hB)
  have HL := Lib.hid (fun r hr => Nat.le_trans (hfew r hr) (show 100 ≤ 9223372036854775806 by omega))
  clear hg hf ht hB hgr hfew hnil
  unfold grV at C ⊢
  go_enter Tryd.func6, Tryd.ntmps6
  go_wp2_with fail
  refine C.out.mono ?_
  rintro e w2 ⟨rfl, hB⟩
  clear C
  have c0' := (hB.cell (p := ⟨w.heap.size, 0, none⟩) (by show w.heap.size < _; omega)).trans c0
  have c1' := (hB.cell (p := ⟨w.heap.size, 1, none⟩) (by show w.heap.size < _; omega)).trans c1
  have HG2 := Lib.hid (HG.out.below hB)
  have HNL2 := Lib.hid (HNL.out.below HG.out hB)
  have HF2 := Lib.hid (HF.out.below hB HF.out.size)
  have HT2 := Lib.hid (HT.out.below hB HT.out.size)
  have HB2 := Lib.hid (HB.out.trans (hB.mono HB.out.size))
  have hz2 := hB.size
  clear hB HG HNL HF HT HB c0 c1
  have c0 := c0'
  have c1 := c1'
  clear c0' c1'
  have C := reach_bad An nn cn At nt ct R f w2 HG2.out HL.out (by omega) HRT.out
  have C := Lib.hid C
  unfold grV at C
  go_wp2_with fail
  refine C.out.mono ?_
  rintro e w3 ⟨rfl, hB⟩
  clear C
  have c0' := (hB.cell (p := ⟨w.heap.size, 0, none⟩) (by show w.heap.size < _; omega)).trans c0
  have c1' := (hB.cell (p := ⟨w.heap.size, 1, none⟩) (by show w.heap.size < _; omega)).trans c1
  have HG3 := Lib.hid (HG2.out.below hB)
  have HNL3 := Lib.hid (HNL2.out.below HG2.out hB)
  have HF3 := Lib.hid (HF2.out.below hB HF2.out.size)
  have HT3 := Lib.hid (HT2.out.below hB HT2.out.size)
  have HB3 := Lib.hid (HB2.out.trans (hB.mono HB2.out.size))
  have hz3 := hB.size
  clear hB HG2 HNL2 HF2 HT2 HB2 c0 c1
  have c0 := c0'
  have c1 := c1'
  clear c0' c1'
  have C := rright_any An nn cn At nt ct R w3 HG3.out HL.out (by omega)
  rw [HRT.out] at C
  have C := Lib.hid C
  unfold grV at C
  go_wp2_with fail
  refine C.out.mono ?_
  rintro e w4 ⟨rfl, hB⟩
  clear C
  have c0' := (hB.cell (p := ⟨w.heap.size, 0, none⟩) (by show w.heap.size < _; omega)).trans c0
  have c1' := (hB.cell (p := ⟨w.heap.size, 1, none⟩) (by show w.heap.size < _; omega)).trans c1
  have HG4 := Lib.hid (HG3.out.below hB)
  have HNL4 := Lib.hid (HNL3.out.below HG3.out hB)
  have HF4 := Lib.hid (HF3.out.below hB HF3.out.size)
  have HT4 := Lib.hid (HT3.out.below hB HT3.out.size)
  have HB4 := Lib.hid (HB3.out.trans (hB.mono HB3.out.size))
  have hz4 := hB.size
  clear hB HG3 HNL3 HF3 HT3 HB3 c0 c1
  have c0 := c0'
  have c1 := c1'
  clear c0' c1'
  have L := Lib.hid (live19_any w4 HF4.out HT4.out)
  go_wp2_with fail
  refine L.out.mono ?_
  rintro e w99 ⟨rfl, hB⟩
  have HB99 := Lib.hid (HB4.out.trans (hB.mono HB4.out.size))
  clear hB
  go_wp2
  go_ret
  exact ⟨rfl, HB99.out⟩
set_option maxRecDepth 100000 in
set_option maxHeartbeats 8000000 in
theorem reaches_low (An : Option Addr) (nn cn : Nat) (At : Option Addr) (nt ct : Nat) (R : List (List Int)) (f : Int) (w : World) (hg : GrAt w At nt R) (hnil : GrNil w At nt) (hf : FormsAt w) (ht : Tabs w) (hgr : greatN nn nt R = false) (hr : rightN nn R = true) (hfl : f < 0) :
    Calls Tryd.prog 6 #[grV An nn cn At nt ct, .int .i64 f] w fun e w' => e = .returned (.bool true) ∧ Below w.heap.size w w' := by
  have HRT := Lib.hid hr
  clear hr
  obtain ⟨W, hW, hB, hz, c0, c1⟩ := grBox w An nn cn At nt ct 30
  obtain ⟨hs1, hs2, hs3⟩ := greatN_no hg.1 hgr
  have hfew := rows_few hs3
  have C := rgreat_any An nn cn At nt ct R W (hg.below hB) (fun r hr => Nat.le_trans (hfew r hr) (by omega)) (by omega) (by omega)
  rw [hgr] at C
  have C := Lib.hid C
  have HF := Lib.hid (hf.below hB hf.size)
  have HT := Lib.hid (ht.below hB ht.size)
  have HB := Lib.hid hB
  have HG := Lib.hid (hg.below hB)
  have HNL := Lib.hid (hnil.below hg hB)
  have HL := Lib.hid (fun r hr => Nat.le_trans (hfew r hr) (show 100 ≤ 9223372036854775806 by omega))
  clear hg hf ht hB hgr hfew hnil
  unfold grV at C ⊢
  go_enter Tryd.func6, Tryd.ntmps6
  go_wp2_with fail
  refine C.out.mono ?_
  rintro e w2 ⟨rfl, hB⟩
  clear C
  have c0' := (hB.cell (p := ⟨w.heap.size, 0, none⟩) (by show w.heap.size < _; omega)).trans c0
  have c1' := (hB.cell (p := ⟨w.heap.size, 1, none⟩) (by show w.heap.size < _; omega)).trans c1
  have HG2 := Lib.hid (HG.out.below hB)
  have HNL2 := Lib.hid (HNL.out.below HG.out hB)
  have HF2 := Lib.hid (HF.out.below hB HF.out.size)
  have HT2 := Lib.hid (HT.out.below hB HT.out.size)
  have HB2 := Lib.hid (HB.out.trans (hB.mono HB.out.size))
  have hz2 := hB.size
  clear hB HG HNL HF HT HB c0 c1
  have c0 := c0'
  have c1 := c1'
  clear c0' c1'
  have C := reach_range An nn cn At nt ct R f w2 HG2.out HL.out (by omega) HRT.out (by omega)
  have C := Lib.hid C
  unfold grV at C
  go_wp2_with fail
  refine C.out.mono ?_
  rintro e w3 ⟨rfl, hB⟩
  clear C
  have c0' := (hB.cell (p := ⟨w.heap.size, 0, none⟩) (by show w.heap.size < _; omega)).trans c0
  have c1' := (hB.cell (p := ⟨w.heap.size, 1, none⟩) (by show w.heap.size < _; omega)).trans c1
  have HG3 := Lib.hid (HG2.out.below hB)
  have HNL3 := Lib.hid (HNL2.out.below HG2.out hB)
  have HF3 := Lib.hid (HF2.out.below hB HF2.out.size)
  have HT3 := Lib.hid (HT2.out.below hB HT2.out.size)
  have HB3 := Lib.hid (HB2.out.trans (hB.mono HB2.out.size))
  have hz3 := hB.size
  clear hB HG2 HNL2 HF2 HT2 HB2 c0 c1
  have c0 := c0'
  have c1 := c1'
  clear c0' c1'
  have C := rright_any An nn cn At nt ct R w3 HG3.out HL.out (by omega)
  rw [HRT.out] at C
  have C := Lib.hid C
  unfold grV at C
  go_wp2_with fail
  refine C.out.mono ?_
  rintro e w4 ⟨rfl, hB⟩
  clear C
  have c0' := (hB.cell (p := ⟨w.heap.size, 0, none⟩) (by show w.heap.size < _; omega)).trans c0
  have c1' := (hB.cell (p := ⟨w.heap.size, 1, none⟩) (by show w.heap.size < _; omega)).trans c1
  have HG4 := Lib.hid (HG3.out.below hB)
  have HNL4 := Lib.hid (HNL3.out.below HG3.out hB)
  have HF4 := Lib.hid (HF3.out.below hB HF3.out.size)
  have HT4 := Lib.hid (HT3.out.below hB HT3.out.size)
  have HB4 := Lib.hid (HB3.out.trans (hB.mono HB3.out.size))
  have hz4 := hB.size
  clear hB HG3 HNL3 HF3 HT3 HB3 c0 c1
  have c0 := c0'
  have c1 := c1'
  clear c0' c1'
  have L := Lib.hid (live19_any w4 HF4.out HT4.out)
  go_wp2_with fail
  refine L.out.mono ?_
  rintro e w99 ⟨rfl, hB⟩
  have HB99 := Lib.hid (HB4.out.trans (hB.mono HB4.out.size))
  clear hB
  go_wp2
  go_ret
  exact ⟨rfl, HB99.out⟩
set_option maxRecDepth 100000 in
set_option maxHeartbeats 8000000 in
theorem reaches_high (An : Option Addr) (nn cn : Nat) (At : Option Addr) (nt ct : Nat) (R : List (List Int)) (f : Int) (w : World) (hg : GrAt w At nt R) (hnil : GrNil w At nt) (hf : FormsAt w) (ht : Tabs w) (hgr : greatN nn nt R = false) (hr : rightN nn R = true) (hfl : 0 ≤ f) (hfh : (nt : Int) ≤ f) :
    Calls Tryd.prog 6 #[grV An nn cn At nt ct, .int .i64 f] w fun e w' => e = .returned (.bool true) ∧ Below w.heap.size w w' := by
  have HRT := Lib.hid hr
  clear hr
  obtain ⟨W, hW, hB, hz, c0, c1⟩ := grBox w An nn cn At nt ct 30
  obtain ⟨hs1, hs2, hs3⟩ := greatN_no hg.1 hgr
  have hfew := rows_few hs3
  have C := rgreat_any An nn cn At nt ct R W (hg.below hB) (fun r hr => Nat.le_trans (hfew r hr) (by omega)) (by omega) (by omega)
  rw [hgr] at C
  have C := Lib.hid C
  have HF := Lib.hid (hf.below hB hf.size)
  have HT := Lib.hid (ht.below hB ht.size)
  have HB := Lib.hid hB
  have HG := Lib.hid (hg.below hB)
  have HNL := Lib.hid (hnil.below hg hB)
  have HL := Lib.hid (fun r hr => Nat.le_trans (hfew r hr) (show 100 ≤ 9223372036854775806 by omega))
  clear hg hf ht hB hgr hfew hnil
  unfold grV at C ⊢
  go_enter Tryd.func6, Tryd.ntmps6
  go_wp2_with fail
  refine C.out.mono ?_
  rintro e w2 ⟨rfl, hB⟩
  clear C
  have c0' := (hB.cell (p := ⟨w.heap.size, 0, none⟩) (by show w.heap.size < _; omega)).trans c0
  have c1' := (hB.cell (p := ⟨w.heap.size, 1, none⟩) (by show w.heap.size < _; omega)).trans c1
  have HG2 := Lib.hid (HG.out.below hB)
  have HNL2 := Lib.hid (HNL.out.below HG.out hB)
  have HF2 := Lib.hid (HF.out.below hB HF.out.size)
  have HT2 := Lib.hid (HT.out.below hB HT.out.size)
  have HB2 := Lib.hid (HB.out.trans (hB.mono HB.out.size))
  have hz2 := hB.size
  clear hB HG HNL HF HT HB c0 c1
  have c0 := c0'
  have c1 := c1'
  clear c0' c1'
  have C := reach_range An nn cn At nt ct R f w2 HG2.out HL.out (by omega) HRT.out (by omega)
  have C := Lib.hid C
  unfold grV at C
  go_wp2_with fail
  refine C.out.mono ?_
  rintro e w3 ⟨rfl, hB⟩
  clear C
  have c0' := (hB.cell (p := ⟨w.heap.size, 0, none⟩) (by show w.heap.size < _; omega)).trans c0
  have c1' := (hB.cell (p := ⟨w.heap.size, 1, none⟩) (by show w.heap.size < _; omega)).trans c1
  have HG3 := Lib.hid (HG2.out.below hB)
  have HNL3 := Lib.hid (HNL2.out.below HG2.out hB)
  have HF3 := Lib.hid (HF2.out.below hB HF2.out.size)
  have HT3 := Lib.hid (HT2.out.below hB HT2.out.size)
  have HB3 := Lib.hid (HB2.out.trans (hB.mono HB2.out.size))
  have hz3 := hB.size
  clear hB HG2 HNL2 HF2 HT2 HB2 c0 c1
  have c0 := c0'
  have c1 := c1'
  clear c0' c1'
  have C := rright_any An nn cn At nt ct R w3 HG3.out HL.out (by omega)
  rw [HRT.out] at C
  have C := Lib.hid C
  unfold grV at C
  go_wp2_with fail
  refine C.out.mono ?_
  rintro e w4 ⟨rfl, hB⟩
  clear C
  have c0' := (hB.cell (p := ⟨w.heap.size, 0, none⟩) (by show w.heap.size < _; omega)).trans c0
  have c1' := (hB.cell (p := ⟨w.heap.size, 1, none⟩) (by show w.heap.size < _; omega)).trans c1
  have HG4 := Lib.hid (HG3.out.below hB)
  have HNL4 := Lib.hid (HNL3.out.below HG3.out hB)
  have HF4 := Lib.hid (HF3.out.below hB HF3.out.size)
  have HT4 := Lib.hid (HT3.out.below hB HT3.out.size)
  have HB4 := Lib.hid (HB3.out.trans (hB.mono HB3.out.size))
  have hz4 := hB.size
  clear hB HG3 HNL3 HF3 HT3 HB3 c0 c1
  have c0 := c0'
  have c1 := c1'
  clear c0' c1'
  have L := Lib.hid (live19_any w4 HF4.out HT4.out)
  go_wp2_with fail
  refine L.out.mono ?_
  rintro e w99 ⟨rfl, hB⟩
  have HB99 := Lib.hid (HB4.out.trans (hB.mono HB4.out.size))
  clear hB
  go_wp2
  go_ret
  exact ⟨rfl, HB99.out⟩
set_option maxRecDepth 100000 in
set_option maxHeartbeats 8000000 in
theorem reaches_good (An : Option Addr) (nn cn : Nat) (At : Option Addr) (nt ct : Nat) (R : List (List Int)) (f0 : Nat) (w : World) (hg : GrAt w At nt R) (hnil : GrNil w At nt) (hf : FormsAt w) (ht : Tabs w) (hgr : greatN nn nt R = false) (hr : rightN nn R = true) (hf0 : f0 < nt) :
    Calls Tryd.prog 6 #[grV An nn cn At nt ct, .int .i64 f0] w fun e w' => e = .returned (.bool true) ∧ Below w.heap.size w w' := by
  have HRT := Lib.hid hr
  obtain ⟨hR1, hR2, hR3⟩ := rightN_nat hr
  have HR1 := Lib.hid hR1
  have HR2 := Lib.hid hR2
  have HN := Lib.hid (show (natG R).length = nt by rw [natG_len]; exact hg.1)
  have hTT : total (natG R) ≤ 1048576 := by
    obtain ⟨_, _, h3⟩ := greatN_no hg.1 hgr
    rw [natG_totalR]; omega
  have hlen := reachK_len (natG R) f0 (natG R).length
  have ek : reachK (natG R) f0 (natG R).length = reachR (natG R) f0 := rfl
  rw [ek, HN.out] at hlen
  have b0 : (0 : Int) ≤ (f0 : Int) := by omega
  have b1 : (f0 : Int) < (nt : Int) := by omega
  have b2 : ¬ (f0 : Int) < 0 := by omega
  have b3 : ¬ (nt : Int) ≤ (f0 : Int) := by omega
  clear hr hR1 hR2 hR3 ek
  obtain ⟨W, hW, hB, hz, c0, c1⟩ := grBox w An nn cn At nt ct 30
  obtain ⟨hs1, hs2, hs3⟩ := greatN_no hg.1 hgr
  have hfew := rows_few hs3
  have C := rgreat_any An nn cn At nt ct R W (hg.below hB) (fun r hr => Nat.le_trans (hfew r hr) (by omega)) (by omega) (by omega)
  rw [hgr] at C
  have C := Lib.hid C
  have HF := Lib.hid (hf.below hB hf.size)
  have HT := Lib.hid (ht.below hB ht.size)
  have HB := Lib.hid hB
  have HG := Lib.hid (hg.below hB)
  have HNL := Lib.hid (hnil.below hg hB)
  have HL := Lib.hid (fun r hr => Nat.le_trans (hfew r hr) (show 100 ≤ 9223372036854775806 by omega))
  clear hg hf ht hB hgr hfew hnil
  unfold grV at C ⊢
  go_enter Tryd.func6, Tryd.ntmps6
  go_wp2_with fail
  refine C.out.mono ?_
  rintro e w2 ⟨rfl, hB⟩
  clear C
  have c0' := (hB.cell (p := ⟨w.heap.size, 0, none⟩) (by show w.heap.size < _; omega)).trans c0
  have c1' := (hB.cell (p := ⟨w.heap.size, 1, none⟩) (by show w.heap.size < _; omega)).trans c1
  have HG2 := Lib.hid (HG.out.below hB)
  have HNL2 := Lib.hid (HNL.out.below HG.out hB)
  have HF2 := Lib.hid (HF.out.below hB HF.out.size)
  have HT2 := Lib.hid (HT.out.below hB HT.out.size)
  have HB2 := Lib.hid (HB.out.trans (hB.mono HB.out.size))
  have hz2 := hB.size
  clear hB HG HNL HF HT HB c0 c1
  have c0 := c0'
  have c1 := c1'
  clear c0' c1'
  have C := reach_good An nn cn At nt ct (natG R) f0 w2 (by rw [HR1.out]; exact HG2.out) HNL2.out HR2.out hTT (by omega) (by rw [HR1.out]; exact HRT.out) hf0
  have C := Lib.hid C
  unfold grV at C
  go_wp2_with fail
  refine C.out.mono ?_
  rintro e w3 ⟨A3, c3, rfl, hown, hB⟩
  have HA3 := Lib.hid hown
  clear hown
  clear C
  have c0' := (hB.cell (p := ⟨w.heap.size, 0, none⟩) (by show w.heap.size < _; omega)).trans c0
  have c1' := (hB.cell (p := ⟨w.heap.size, 1, none⟩) (by show w.heap.size < _; omega)).trans c1
  have HG3 := Lib.hid (HG2.out.below hB)
  have HNL3 := Lib.hid (HNL2.out.below HG2.out hB)
  have HF3 := Lib.hid (HF2.out.below hB HF2.out.size)
  have HT3 := Lib.hid (HT2.out.below hB HT2.out.size)
  have HB3 := Lib.hid (HB2.out.trans (hB.mono HB2.out.size))
  have hz3 := hB.size
  clear hB HG2 HNL2 HF2 HT2 HB2 c0 c1
  have c0 := c0'
  have c1 := c1'
  clear c0' c1'
  have C := rright_any An nn cn At nt ct R w3 HG3.out HL.out (by omega)
  rw [HRT.out] at C
  have C := Lib.hid C
  unfold grV at C
  go_wp2_with fail
  refine C.out.mono ?_
  rintro e w4 ⟨rfl, hB⟩
  have HA3 := Lib.hid (ownB_belowG HA3.out hB)
  clear C
  have c0' := (hB.cell (p := ⟨w.heap.size, 0, none⟩) (by show w.heap.size < _; omega)).trans c0
  have c1' := (hB.cell (p := ⟨w.heap.size, 1, none⟩) (by show w.heap.size < _; omega)).trans c1
  have HG4 := Lib.hid (HG3.out.below hB)
  have HNL4 := Lib.hid (HNL3.out.below HG3.out hB)
  have HF4 := Lib.hid (HF3.out.below hB HF3.out.size)
  have HT4 := Lib.hid (HT3.out.below hB HT3.out.size)
  have HB4 := Lib.hid (HB3.out.trans (hB.mono HB3.out.size))
  have hz4 := hB.size
  clear hB HG3 HNL3 HF3 HT3 HB3 c0 c1
  have c0 := c0'
  have c1 := c1'
  clear c0' c1'
  have C := rreach_any An nn cn At nt ct (natG R) f0 w4 (by rw [HR1.out]; exact HG4.out) HR2.out (by rw [HR1.out]; exact HL.out) (by omega) hf0
  have C := Lib.hid C
  unfold grV at C
  go_wp2_with fail
  refine C.out.mono ?_
  rintro e w5 ⟨A5, c5, rfl, hown, hB⟩
  have CI := Lib.hid (intsYes A3 (reachR (natG R) f0).length c3 ((reachR (natG R) f0).map Int.ofNat) A5 (reachR (natG R) f0).length c5 w5 (natInts rfl (ownB_belowG HA3.out hB)) (natInts rfl hown) (by omega))
  clear hown HA3
  clear C
  have c0' := (hB.cell (p := ⟨w.heap.size, 0, none⟩) (by show w.heap.size < _; omega)).trans c0
  have c1' := (hB.cell (p := ⟨w.heap.size, 1, none⟩) (by show w.heap.size < _; omega)).trans c1
  have HG5 := Lib.hid (HG4.out.below hB)
  have HNL5 := Lib.hid (HNL4.out.below HG4.out hB)
  have HF5 := Lib.hid (HF4.out.below hB HF4.out.size)
  have HT5 := Lib.hid (HT4.out.below hB HT4.out.size)
  have HB5 := Lib.hid (HB4.out.trans (hB.mono HB4.out.size))
  have hz5 := hB.size
  clear hB HG4 HNL4 HF4 HT4 HB4 c0 c1
  have c0 := c0'
  have c1 := c1'
  clear c0' c1'
  go_wp2_with fail
  refine CI.out.mono ?_
  rintro e w6 ⟨rfl, hB⟩
  clear CI
  have c0' := (hB.cell (p := ⟨w.heap.size, 0, none⟩) (by show w.heap.size < _; omega)).trans c0
  have c1' := (hB.cell (p := ⟨w.heap.size, 1, none⟩) (by show w.heap.size < _; omega)).trans c1
  have HG6 := Lib.hid (HG5.out.below hB)
  have HNL6 := Lib.hid (HNL5.out.below HG5.out hB)
  have HF6 := Lib.hid (HF5.out.below hB HF5.out.size)
  have HT6 := Lib.hid (HT5.out.below hB HT5.out.size)
  have HB6 := Lib.hid (HB5.out.trans (hB.mono HB5.out.size))
  have hz6 := hB.size
  clear hB HG5 HNL5 HF5 HT5 HB5 c0 c1
  have c0 := c0'
  have c1 := c1'
  clear c0' c1'
  have L := Lib.hid (live19_any w6 HF6.out HT6.out)
  go_wp2_with fail
  refine L.out.mono ?_
  rintro e w99 ⟨rfl, hB⟩
  have HB99 := Lib.hid (HB6.out.trans (hB.mono HB6.out.size))
  clear hB
  go_wp2
  go_ret
  exact ⟨rfl, HB99.out⟩
theorem graphReaches_any (An : Option Addr) (nn cn : Nat) (At : Option Addr) (nt ct : Nat) (R : List (List Int)) (f : Int) (w : World) (hg : GrAt w At nt R) (hnil : GrNil w At nt) (hs : ∀ r ∈ R, r.length ≤ 17592186044416) (hnn : nn ≤ maxLen) (hnt : nt ≤ maxLen) (hf1 : -9223372036854775808 ≤ f) (hf2 : f ≤ 9223372036854775807) (hf : FormsAt w) (ht : Tabs w) :
    Calls Tryd.prog 6 #[grV An nn cn At nt ct, .int .i64 f] w fun e w' => e = .returned (.bool true) ∧ Below w.heap.size w w' := by
  cases hgr : greatN nn nt R with
  | true => exact reaches_great An nn cn At nt ct R f w hg hs hnn hnt hf ht hgr
  | false =>
    cases hr : rightN nn R with
    | false => exact reaches_bad An nn cn At nt ct R f w hg hnil hf ht hgr hr
    | true =>
      rcases Int.lt_or_le f 0 with h | h
      · exact reaches_low An nn cn At nt ct R f w hg hnil hf ht hgr hr h
      · obtain ⟨f0, rfl⟩ : ∃ f0 : Nat, f = (f0 : Int) := ⟨f.toNat, by omega⟩
        rcases Nat.lt_or_ge f0 nt with h2 | h2
        · exact reaches_good An nn cn At nt ct R f0 w hg hnil hf ht hgr hr h2
        · exact reaches_high An nn cn At nt ct R f0 w hg hnil hf ht hgr hr (by omega) (by omega)
end Go.Proofs.YtignndcjblfocaaDoor
