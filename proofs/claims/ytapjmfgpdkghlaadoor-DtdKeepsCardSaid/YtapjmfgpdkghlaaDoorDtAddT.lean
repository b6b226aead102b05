/- dtd.Table.Add: what counts. Conditions: names and words within the reach; at most 2^20 of each. Printed by gen-dtaddt.py and takef.py. -/
import Derived.Test.YtapjmfgpdkghlaaDoorDtKnown
namespace Go.Proofs.YtapjmfgpdkghlaaDoor
open Go.RowKit Go.Maps
set_option linter.unusedVariables false
set_option linter.unusedSimpArgs false
def tAdd (S : TSt) (d : DcP) : TSt :=
  if d.ki = 1 then (if d.pm = true then { S with pars := addBy Ent.na S.pars d.en } else if 0 < knownN d.en.na then S else { S with gens := addBy Ent.na S.gens d.en })
  else if d.ki = 3 then { S with nots := addBy (·.1) S.nots (d.na, d.pu, d.sy) }
  else if d.ki = 2 then { S with els := addEl S.els d.na d.ds }
  else S
def tOk (d : DcP) : Int := if d.ki < 1 ∨ 6 < d.ki then 2 else 0
def Dc.cells (d : Dc) : List Value := [.int .i64 d.ki, .string d.na, .bool d.pm, .string d.en.na, .string d.en.tx, .bool d.en.out, .string d.en.pu, .string d.en.sy, .string d.en.no, .slice d.A d.ds.length d.c, .string d.pu, .string d.sy, .string d.tx]
def Dc.v (d : Dc) : Value := .agg d.cells.toArray
theorem add_bad (base tb : Nat) (T : Tm) (d : Dc) (w : World) (h : TabAt w base tb T) (hk : d.ki < 1 ∨ 6 < d.ki) :
    Calls Tryd.prog 26 #[.pointer (some ⟨tb, 0, none⟩), d.v] w (TabTold base tb T T.st (.int .i64 2) w) := by
  obtain ⟨ki, na, pm, ⟨ena, etx, eout, epu, esy, eno⟩, ds, A, c, pu, sy, tx⟩ := d
  dsimp only [Dc.pl] at *
  obtain ⟨W, hW, hsW, hBW, bx⟩ := boxWorld w #[.int .i64 ki, .string na, .bool pm, .string ena, .string etx, .bool eout, .string epu, .string esy, .string eno, .slice A ds.length c, .string pu, .string sy, .string tx] 59
  have BX := Lib.hid bx
  have HBW := Lib.hid hBW
  have HT := Lib.hid (h.below hBW)
  have T0 := Lib.hid h
  have x0 := cellsOf_block bx (j := 0) rfl
  show Calls _ _ #[_, .agg #[.int .i64 ki, .string na, .bool pm, .string ena, .string etx, .bool eout, .string epu, .string esy, .string eno, .slice A ds.length c, .string pu, .string sy, .string tx]] _ _
  clear h bx hBW
  go_enter Tryd.func26, Tryd.ntmps26
  go_upto_region 1 with (fail)
  clear hW
  by_cases hlt : ki < 1
  · go_wp2
    go_ret
    exact ⟨rfl, T, TabKept.refl T0.out HBW.out, rfl⟩
  · have h6 : 6 < ki := hk.resolve_left hlt
    clear hk
    go_wp2
    go_ret
    exact ⟨rfl, T, TabKept.refl T0.out HBW.out, rfl⟩
theorem add_other (base tb : Nat) (T : Tm) (d : Dc) (w : World) (h : TabAt w base tb T) (h1 : 4 ≤ d.ki) (h2 : d.ki ≤ 6) :
    Calls Tryd.prog 26 #[.pointer (some ⟨tb, 0, none⟩), d.v] w (TabTold base tb T T.st (.int .i64 0) w) := by
  obtain ⟨ki, na, pm, ⟨ena, etx, eout, epu, esy, eno⟩, ds, A, c, pu, sy, tx⟩ := d
  dsimp only [Dc.pl] at *
  obtain ⟨W, hW, hsW, hBW, bx⟩ := boxWorld w #[.int .i64 ki, .string na, .bool pm, .string ena, .string etx, .bool eout, .string epu, .string esy, .string eno, .slice A ds.length c, .string pu, .string sy, .string tx] 59
  have BX := Lib.hid bx
  have HBW := Lib.hid hBW
  have HT := Lib.hid (h.below hBW)
  have T0 := Lib.hid h
  have x0 := cellsOf_block bx (j := 0) rfl
  show Calls _ _ #[_, .agg #[.int .i64 ki, .string na, .bool pm, .string ena, .string etx, .bool eout, .string epu, .string esy, .string eno, .slice A ds.length c, .string pu, .string sy, .string tx]] _ _
  clear h bx hBW
  go_enter Tryd.func26, Tryd.ntmps26
  go_upto_region 1 with (fail)
  clear hW
  have q1 : ¬ ki < 1 := by omega
  have q2 : ¬ 6 < ki := by omega
  have q3 : ¬ ki = 1 := by omega
  have q4 : ¬ ki = 3 := by omega
  have q5 : ¬ ki = 2 := by omega
  clear h1 h2
  go_wp2
  go_ret
  exact ⟨rfl, T, TabKept.refl T0.out HBW.out, rfl⟩
theorem add_known (base tb : Nat) (T : Tm) (d : Dc) (w : World) (h : TabAt w base tb T) (hK : KnownAt w) (h1 : d.ki = 1) (h2 : d.pm = false) (h3 : 0 < knownN d.en.na) :
    Calls Tryd.prog 26 #[.pointer (some ⟨tb, 0, none⟩), d.v] w (TabTold base tb T T.st (.int .i64 0) w) := by
  obtain ⟨ki, na, pm, ⟨ena, etx, eout, epu, esy, eno⟩, ds, A, c, pu, sy, tx⟩ := d
  dsimp only [Dc.pl] at *
  subst h1 h2
  obtain ⟨W, hW, hsW, hBW, bx⟩ := boxWorld w #[.int .i64 1, .string na, .bool false, .string ena, .string etx, .bool eout, .string epu, .string esy, .string eno, .slice A ds.length c, .string pu, .string sy, .string tx] 59
  have BX := Lib.hid bx
  have HBW := Lib.hid hBW
  have HT := Lib.hid (h.below hBW)
  have T0 := Lib.hid h
  have x0 := cellsOf_block bx (j := 0) rfl
  have x2 := cellsOf_block bx (j := 2) rfl
  have x3 := cellsOf_block bx (j := 3) rfl
  have C := Lib.hid (known_any ena W (hK.later hBW))
  have H3 := Lib.hid h3
  clear h3 hK
  show Calls _ _ #[_, .agg #[.int .i64 1, .string na, .bool false, .string ena, .string etx, .bool eout, .string epu, .string esy, .string eno, .slice A ds.length c, .string pu, .string sy, .string tx]] _ _
  clear h bx hBW
  go_enter Tryd.func26, Tryd.ntmps26
  go_upto_region 1 with (fail)
  clear hW
  go_wp2_with fail
  refine C.out.mono ?_
  rintro e w2 ⟨rfl, hB⟩
  rw [decide_eq_true H3.out]
  have y2 := (hB.cell (p := ⟨w.heap.size, 2, none⟩) (Array.getElem?_eq_some_iff.1 BX.out).1).trans (cellsOf_block BX.out (j := 2) rfl)
  have HB := Lib.hid (HBW.out.trans (hB.mono HBW.out.size))
  clear hB C
  go_wp2
  go_ret
  exact ⟨rfl, T, TabKept.refl T0.out HB.out, rfl⟩
set_option maxHeartbeats 4000000 in
theorem add_par (base tb : Nat) (T : Tm) (d : Dc) (w : World) (h : TabAt w base tb T) (hb : base ≤ w.heap.size) (hns : d.en.na.size ≤ maxLen) (hl : T.pars.length ≤ 1048575) (hK : KnownAt w) (h1 : d.ki = 1) (h2 : d.pm = true) :
    Calls Tryd.prog 26 #[.pointer (some ⟨tb, 0, none⟩), d.v] w (TabTold base tb T { T.st with pars := addBy Ent.na T.pars d.en } (.int .i64 0) w) := by
  obtain ⟨ki, na, pm, ⟨ena, etx, eout, epu, esy, eno⟩, ds, A, c, pu, sy, tx⟩ := d
  dsimp only [Dc.pl] at *
  subst h1 h2
  obtain ⟨W, hW, hsW, hBW, bx⟩ := boxWorld w #[.int .i64 1, .string na, .bool true, .string ena, .string etx, .bool eout, .string epu, .string esy, .string eno, .slice A ds.length c, .string pu, .string sy, .string tx] 59
  have BX := Lib.hid bx
  have HBW := Lib.hid hBW
  have HT := Lib.hid (h.below hBW)
  have T0 := Lib.hid h
  have x0 := cellsOf_block bx (j := 0) rfl
  have x2 := cellsOf_block bx (j := 2) rfl
  have x3 := cellsOf_block bx (j := 3) rfl
  have C := Lib.hid (known_any ena W (hK.later hBW))
  have HNS := Lib.hid hns
  have HL := Lib.hid hl
  clear hns hl hK
  show Calls _ _ #[_, .agg #[.int .i64 1, .string na, .bool true, .string ena, .string etx, .bool eout, .string epu, .string esy, .string eno, .slice A ds.length c, .string pu, .string sy, .string tx]] _ _
  clear h bx hBW
  go_enter Tryd.func26, Tryd.ntmps26
  go_upto_region 1 with (fail)
  clear hW
  go_wp2_with fail
  refine C.out.mono ?_
  rintro e w2 ⟨rfl, hB⟩
  have BX2 := Lib.hid ((hB.block w.heap.size (Array.getElem?_eq_some_iff.1 BX.out).1).trans BX.out)
  have HB := Lib.hid (HBW.out.trans (hB.mono HBW.out.size))
  have HT2 := Lib.hid (HT.out.below hB)
  have y2 := cellsOf_block BX2.out (j := 2) rfl
  clear hB C x0 x2 x3
  have k1 : w2.drew.cell? ⟨tb, 1, none⟩ = some (.pointer (some ⟨T.p.rb, 0, none⟩)) := HT2.out.cell.2.1
  have y3 : w2.drew.cell? ⟨w.heap.size, 3, none⟩ = some (.string ena) := cellsOf_block BX2.out (j := 3) rfl
  have y4 : w2.drew.cell? ⟨w.heap.size, 4, none⟩ = some (.string etx) := cellsOf_block BX2.out (j := 4) rfl
  have y5 : w2.drew.cell? ⟨w.heap.size, 5, none⟩ = some (.bool eout) := cellsOf_block BX2.out (j := 5) rfl
  have y6 : w2.drew.cell? ⟨w.heap.size, 6, none⟩ = some (.string epu) := cellsOf_block BX2.out (j := 6) rfl
  have y7 : w2.drew.cell? ⟨w.heap.size, 7, none⟩ = some (.string esy) := cellsOf_block BX2.out (j := 7) rfl
  have y8 : w2.drew.cell? ⟨w.heap.size, 8, none⟩ = some (.string eno) := cellsOf_block BX2.out (j := 8) rfl
  have CA := Lib.hid (addEn_any base T.p (T.pars.map Ent.na) (entCells T.pars) ena ⟨ena, etx, eout, epu, esy, eno⟩ w2.drew (HT2.out.below (Below.refl _ _).drew).pars HNS.out (by rw [List.length_map]; have := HL.out; omega) (Nat.le_trans hb HB.out.size))
  go_wp2_with fail
  refine wp_region_late [(9, fun V => V.cell? ⟨tb, 1, none⟩ = some (.pointer (some ⟨T.p.rb, 0, none⟩)) ∧ V.cell? ⟨w.heap.size, 3, none⟩ = some (.string ena) ∧ V.cell? ⟨w.heap.size, 4, none⟩ = some (.string etx) ∧ V.cell? ⟨w.heap.size, 5, none⟩ = some (.bool eout) ∧ V.cell? ⟨w.heap.size, 6, none⟩ = some (.string epu) ∧ V.cell? ⟨w.heap.size, 7, none⟩ = some (.string esy) ∧ V.cell? ⟨w.heap.size, 8, none⟩ = some (.string eno))] (by kernel_rfl) ⟨.inr ⟨k1, y3, y4, y5, y6, y7, y8⟩, trivial⟩ (fun hC0 => ?_)
  --REG (*narthex/dtd.Table).Add:9 0 1 2 3@0 4 5 6@0 7 8@0
  refine wpAnyL_pure (i := 0) (oi := ({ dst := some 33, op := Op.move (Operand.tmp 0), type := 25, pos := "dtd.go:86", after := #[], guard := none } : Oper)) (v := ?_) rfl (by kernel_rfl) (by kernel_rfl) (by kernel_rfl) (by kernel_rfl) (fun _ _ _ h => h) (Or.inl ⟨by rfl, ?_⟩) (by assumption) (by kernel_rfl) ?_
  rotate_left 1
  · intro w hSw; clear hSw; go_simp; try with_reducible rfl
  (try simp only [Act.put, List.setIfInBounds_toArray, List.set_cons_zero, List.set_cons_succ])
  refine wpAnyL_pure (i := 1) (oi := ({ dst := some 34, op := Op.nilCheck (Operand.tmp 33), type := 0, pos := "dtd.go:86", after := #[{ on := 0, ground := Ground.data }], guard := none } : Oper)) (v := ?_) rfl (by kernel_rfl) (by kernel_rfl) (by kernel_rfl) (by kernel_rfl) (fun _ _ _ h => h) (Or.inl ⟨by rfl, ?_⟩) (by assumption) (by kernel_rfl) ?_
  rotate_left 1
  · intro w hSw; clear hSw; go_simp; try with_reducible rfl
  (try simp only [Act.put, List.setIfInBounds_toArray, List.set_cons_zero, List.set_cons_succ])
  refine wpAnyL_pure (i := 2) (oi := ({ dst := some 35, op := Op.fieldAddr 71 (Operand.tmp 34) 1, type := 0, pos := "dtd.go:86", after := #[{ on := 1, ground := Ground.data }], guard := none } : Oper)) (v := ?_) rfl (by kernel_rfl) (by kernel_rfl) (by kernel_rfl) (by kernel_rfl) (fun _ _ _ h => h) (Or.inl ⟨by rfl, ?_⟩) (by assumption) (by kernel_rfl) ?_
  rotate_left 1
  · intro w hSw; clear hSw; go_simp; try with_reducible rfl
  (try simp only [Act.put, List.setIfInBounds_toArray, List.set_cons_zero, List.set_cons_succ])
  refine wpAnyL_take (i := 3) 0 (oi := ({ dst := some 36, op := Op.load 67 (Operand.tmp 35), type := 67, pos := "dtd.go:86", after := #[{ on := 2, ground := Ground.data }], guard := none } : Oper)) (v := ?_) rfl (by kernel_rfl) (by kernel_rfl) (by kernel_rfl) rfl (by kernel_rfl) (by kernel_rfl) (by kernel_rfl) (fun _ _ _ h => h) (Or.inl ⟨by rfl, ?_⟩) (by assumption) (by kernel_rfl) ?_
  rotate_left 1
  · intro w hSw; (try dsimp only at hSw); go_simp; try with_reducible rfl
  (try simp only [Act.put, List.setIfInBounds_toArray, List.set_cons_zero, List.set_cons_succ])
  refine wpAnyL_pure (i := 4) (oi := ({ dst := some 37, op := Op.fieldAddr 59 (Operand.tmp 3) 3, type := 0, pos := "dtd.go:86", after := #[], guard := none } : Oper)) (v := ?_) rfl (by kernel_rfl) (by kernel_rfl) (by kernel_rfl) (by kernel_rfl) (fun _ _ _ h => h) (Or.inl ⟨by rfl, ?_⟩) (by assumption) (by kernel_rfl) ?_
  rotate_left 1
  · intro w hSw; clear hSw; go_simp; try with_reducible rfl
  (try simp only [Act.put, List.setIfInBounds_toArray, List.set_cons_zero, List.set_cons_succ])
  refine wpAnyL_pure (i := 5) (oi := ({ dst := some 38, op := Op.fieldAddr 46 (Operand.tmp 37) 0, type := 0, pos := "dtd.go:86", after := #[{ on := 4, ground := Ground.data }], guard := none } : Oper)) (v := ?_) rfl (by kernel_rfl) (by kernel_rfl) (by kernel_rfl) (by kernel_rfl) (fun _ _ _ h => h) (Or.inl ⟨by rfl, ?_⟩) (by assumption) (by kernel_rfl) ?_
  rotate_left 1
  · intro w hSw; clear hSw; go_simp; try with_reducible rfl
  (try simp only [Act.put, List.setIfInBounds_toArray, List.set_cons_zero, List.set_cons_succ])
  refine wpAnyL_take (i := 6) 0 (oi := ({ dst := some 39, op := Op.load 9 (Operand.tmp 38), type := 9, pos := "dtd.go:86", after := #[{ on := 5, ground := Ground.data }], guard := none } : Oper)) (v := ?_) rfl (by kernel_rfl) (by kernel_rfl) (by kernel_rfl) rfl (by kernel_rfl) (by kernel_rfl) (by kernel_rfl) (fun _ _ _ h => h) (Or.inl ⟨by rfl, ?_⟩) (by assumption) (by kernel_rfl) ?_
  rotate_left 1
  · intro w hSw; (try dsimp only at hSw); go_simp; try with_reducible rfl
  (try simp only [Act.put, List.setIfInBounds_toArray, List.set_cons_zero, List.set_cons_succ])
  refine wpAnyL_pure (i := 7) (oi := ({ dst := some 40, op := Op.fieldAddr 59 (Operand.tmp 3) 3, type := 0, pos := "dtd.go:86", after := #[], guard := none } : Oper)) (v := ?_) rfl (by kernel_rfl) (by kernel_rfl) (by kernel_rfl) (by kernel_rfl) (fun _ _ _ h => h) (Or.inl ⟨by rfl, ?_⟩) (by assumption) (by kernel_rfl) ?_
  rotate_left 1
  · intro w hSw; clear hSw; go_simp; try with_reducible rfl
  (try simp only [Act.put, List.setIfInBounds_toArray, List.set_cons_zero, List.set_cons_succ])
  refine wpAnyL_take (i := 8) 0 (oi := ({ dst := some 41, op := Op.load 46 (Operand.tmp 40), type := 46, pos := "dtd.go:86", after := #[{ on := 7, ground := Ground.data }], guard := none } : Oper)) (v := ?_) rfl (by kernel_rfl) (by kernel_rfl) (by kernel_rfl) rfl (by kernel_rfl) (by kernel_rfl) (by kernel_rfl) (fun _ _ _ h => h) (Or.inl ⟨by rfl, ?_⟩) (by assumption) (by kernel_rfl) ?_
  rotate_left 1
  · intro w hSw; (try dsimp only at hSw); go_simp; try with_reducible rfl
  (try simp only [Act.put, List.setIfInBounds_toArray, List.set_cons_zero, List.set_cons_succ])
  --END
  refine wpAnyL_ready (rs := [9]) (by kernel_rfl) (by simp) ?_
  refine AllReadyL.cons (o := _) rfl (fun K hK => ?_) AllReadyL.nil
  go_simp
  refine CA.out.mono ?_
  intro e w7 hadd
  have he := hadd.1
  subst he
  obtain ⟨T7, hk7, hst7⟩ := putPar (HT2.out.below (Below.refl _ _).drew) ⟨ena, etx, eout, epu, esy, eno⟩ hadd
  have K7 := Lib.hid ((TabKept.refl T0.out (HB.out.trans (Below.refl _ _).drew)).trans hk7)
  have ST7 := Lib.hid hst7
  dsimp only
  refine hK.out _ _ ⟨.inl (by rfl), trivial⟩ (fun hC1 => ?_)
  clear hK K hC0 hadd CA hk7 hst7
  (try simp only [Act.put, List.setIfInBounds_toArray, List.set_cons_zero, List.set_cons_succ])
  refine wpAnyL_done (by kernel_rfl) ?_ _
  clear hC1
  go_wp2
  go_ret
  exact ⟨rfl, T7, K7.out, ST7.out⟩
set_option maxHeartbeats 4000000 in
theorem add_gen (base tb : Nat) (T : Tm) (d : Dc) (w : World) (h : TabAt w base tb T) (hb : base ≤ w.heap.size) (hns : d.en.na.size ≤ maxLen) (hl : T.gens.length ≤ 1048575) (hK : KnownAt w) (h1 : d.ki = 1) (h2 : d.pm = false) (h3 : ¬ 0 < knownN d.en.na) :
    Calls Tryd.prog 26 #[.pointer (some ⟨tb, 0, none⟩), d.v] w (TabTold base tb T { T.st with gens := addBy Ent.na T.gens d.en } (.int .i64 0) w) := by
  obtain ⟨ki, na, pm, ⟨ena, etx, eout, epu, esy, eno⟩, ds, A, c, pu, sy, tx⟩ := d
  dsimp only [Dc.pl] at *
  subst h1 h2
  obtain ⟨W, hW, hsW, hBW, bx⟩ := boxWorld w #[.int .i64 1, .string na, .bool false, .string ena, .string etx, .bool eout, .string epu, .string esy, .string eno, .slice A ds.length c, .string pu, .string sy, .string tx] 59
  have BX := Lib.hid bx
  have HBW := Lib.hid hBW
  have HT := Lib.hid (h.below hBW)
  have T0 := Lib.hid h
  have x0 := cellsOf_block bx (j := 0) rfl
  have x2 := cellsOf_block bx (j := 2) rfl
  have x3 := cellsOf_block bx (j := 3) rfl
  have C := Lib.hid (known_any ena W (hK.later hBW))
  have HNS := Lib.hid hns
  have HL := Lib.hid hl
  clear hns hl hK
  have H3 := Lib.hid h3
  clear h3
  show Calls _ _ #[_, .agg #[.int .i64 1, .string na, .bool false, .string ena, .string etx, .bool eout, .string epu, .string esy, .string eno, .slice A ds.length c, .string pu, .string sy, .string tx]] _ _
  clear h bx hBW
  go_enter Tryd.func26, Tryd.ntmps26
  go_upto_region 1 with (fail)
  clear hW
  go_wp2_with fail
  refine C.out.mono ?_
  rintro e w2 ⟨rfl, hB⟩
  rw [decide_eq_false (by have := H3.out; omega : ¬ 0 < knownN ena)]
  have BX2 := Lib.hid ((hB.block w.heap.size (Array.getElem?_eq_some_iff.1 BX.out).1).trans BX.out)
  have HB := Lib.hid (HBW.out.trans (hB.mono HBW.out.size))
  have HT2 := Lib.hid (HT.out.below hB)
  have y2 := cellsOf_block BX2.out (j := 2) rfl
  clear hB C x0 x2 x3
  have k1 : w2.drew.cell? ⟨tb, 0, none⟩ = some (.pointer (some ⟨T.g.rb, 0, none⟩)) := HT2.out.cell.1
  have y3 : w2.drew.cell? ⟨w.heap.size, 3, none⟩ = some (.string ena) := cellsOf_block BX2.out (j := 3) rfl
  have y4 : w2.drew.cell? ⟨w.heap.size, 4, none⟩ = some (.string etx) := cellsOf_block BX2.out (j := 4) rfl
  have y5 : w2.drew.cell? ⟨w.heap.size, 5, none⟩ = some (.bool eout) := cellsOf_block BX2.out (j := 5) rfl
  have y6 : w2.drew.cell? ⟨w.heap.size, 6, none⟩ = some (.string epu) := cellsOf_block BX2.out (j := 6) rfl
  have y7 : w2.drew.cell? ⟨w.heap.size, 7, none⟩ = some (.string esy) := cellsOf_block BX2.out (j := 7) rfl
  have y8 : w2.drew.cell? ⟨w.heap.size, 8, none⟩ = some (.string eno) := cellsOf_block BX2.out (j := 8) rfl
  have CA := Lib.hid (addEn_any base T.g (T.gens.map Ent.na) (entCells T.gens) ena ⟨ena, etx, eout, epu, esy, eno⟩ w2.drew (HT2.out.below (Below.refl _ _).drew).gens HNS.out (by rw [List.length_map]; have := HL.out; omega) (Nat.le_trans hb HB.out.size))
  go_wp2_with fail
  refine wp_region_late [(9, fun V => V.cell? ⟨tb, 0, none⟩ = some (.pointer (some ⟨T.g.rb, 0, none⟩)) ∧ V.cell? ⟨w.heap.size, 3, none⟩ = some (.string ena) ∧ V.cell? ⟨w.heap.size, 4, none⟩ = some (.string etx) ∧ V.cell? ⟨w.heap.size, 5, none⟩ = some (.bool eout) ∧ V.cell? ⟨w.heap.size, 6, none⟩ = some (.string epu) ∧ V.cell? ⟨w.heap.size, 7, none⟩ = some (.string esy) ∧ V.cell? ⟨w.heap.size, 8, none⟩ = some (.string eno))] (by kernel_rfl) ⟨.inr ⟨k1, y3, y4, y5, y6, y7, y8⟩, trivial⟩ (fun hC0 => ?_)
  --REG (*narthex/dtd.Table).Add:11 0 1 2 3@0 4 5 6@0 7 8@0
  refine wpAnyL_pure (i := 0) (oi := ({ dst := some 46, op := Op.move (Operand.tmp 0), type := 25, pos := "dtd.go:88", after := #[], guard := none } : Oper)) (v := ?_) rfl (by kernel_rfl) (by kernel_rfl) (by kernel_rfl) (by kernel_rfl) (fun _ _ _ h => h) (Or.inl ⟨by rfl, ?_⟩) (by assumption) (by kernel_rfl) ?_
  rotate_left 1
  · intro w hSw; clear hSw; go_simp; try with_reducible rfl
  (try simp only [Act.put, List.setIfInBounds_toArray, List.set_cons_zero, List.set_cons_succ])
  refine wpAnyL_pure (i := 1) (oi := ({ dst := some 47, op := Op.nilCheck (Operand.tmp 46), type := 0, pos := "dtd.go:88", after := #[{ on := 0, ground := Ground.data }], guard := none } : Oper)) (v := ?_) rfl (by kernel_rfl) (by kernel_rfl) (by kernel_rfl) (by kernel_rfl) (fun _ _ _ h => h) (Or.inl ⟨by rfl, ?_⟩) (by assumption) (by kernel_rfl) ?_
  rotate_left 1
  · intro w hSw; clear hSw; go_simp; try with_reducible rfl
  (try simp only [Act.put, List.setIfInBounds_toArray, List.set_cons_zero, List.set_cons_succ])
  refine wpAnyL_pure (i := 2) (oi := ({ dst := some 48, op := Op.fieldAddr 71 (Operand.tmp 47) 0, type := 0, pos := "dtd.go:88", after := #[{ on := 1, ground := Ground.data }], guard := none } : Oper)) (v := ?_) rfl (by kernel_rfl) (by kernel_rfl) (by kernel_rfl) (by kernel_rfl) (fun _ _ _ h => h) (Or.inl ⟨by rfl, ?_⟩) (by assumption) (by kernel_rfl) ?_
  rotate_left 1
  · intro w hSw; clear hSw; go_simp; try with_reducible rfl
  (try simp only [Act.put, List.setIfInBounds_toArray, List.set_cons_zero, List.set_cons_succ])
  refine wpAnyL_take (i := 3) 0 (oi := ({ dst := some 49, op := Op.load 67 (Operand.tmp 48), type := 67, pos := "dtd.go:88", after := #[{ on := 2, ground := Ground.data }], guard := none } : Oper)) (v := ?_) rfl (by kernel_rfl) (by kernel_rfl) (by kernel_rfl) rfl (by kernel_rfl) (by kernel_rfl) (by kernel_rfl) (fun _ _ _ h => h) (Or.inl ⟨by rfl, ?_⟩) (by assumption) (by kernel_rfl) ?_
  rotate_left 1
  · intro w hSw; (try dsimp only at hSw); go_simp; try with_reducible rfl
  (try simp only [Act.put, List.setIfInBounds_toArray, List.set_cons_zero, List.set_cons_succ])
  refine wpAnyL_pure (i := 4) (oi := ({ dst := some 50, op := Op.fieldAddr 59 (Operand.tmp 3) 3, type := 0, pos := "dtd.go:88", after := #[], guard := none } : Oper)) (v := ?_) rfl (by kernel_rfl) (by kernel_rfl) (by kernel_rfl) (by kernel_rfl) (fun _ _ _ h => h) (Or.inl ⟨by rfl, ?_⟩) (by assumption) (by kernel_rfl) ?_
  rotate_left 1
  · intro w hSw; clear hSw; go_simp; try with_reducible rfl
  (try simp only [Act.put, List.setIfInBounds_toArray, List.set_cons_zero, List.set_cons_succ])
  refine wpAnyL_pure (i := 5) (oi := ({ dst := some 51, op := Op.fieldAddr 46 (Operand.tmp 50) 0, type := 0, pos := "dtd.go:88", after := #[{ on := 4, ground := Ground.data }], guard := none } : Oper)) (v := ?_) rfl (by kernel_rfl) (by kernel_rfl) (by kernel_rfl) (by kernel_rfl) (fun _ _ _ h => h) (Or.inl ⟨by rfl, ?_⟩) (by assumption) (by kernel_rfl) ?_
  rotate_left 1
  · intro w hSw; clear hSw; go_simp; try with_reducible rfl
  (try simp only [Act.put, List.setIfInBounds_toArray, List.set_cons_zero, List.set_cons_succ])
  refine wpAnyL_take (i := 6) 0 (oi := ({ dst := some 52, op := Op.load 9 (Operand.tmp 51), type := 9, pos := "dtd.go:88", after := #[{ on := 5, ground := Ground.data }], guard := none } : Oper)) (v := ?_) rfl (by kernel_rfl) (by kernel_rfl) (by kernel_rfl) rfl (by kernel_rfl) (by kernel_rfl) (by kernel_rfl) (fun _ _ _ h => h) (Or.inl ⟨by rfl, ?_⟩) (by assumption) (by kernel_rfl) ?_
  rotate_left 1
  · intro w hSw; (try dsimp only at hSw); go_simp; try with_reducible rfl
  (try simp only [Act.put, List.setIfInBounds_toArray, List.set_cons_zero, List.set_cons_succ])
  refine wpAnyL_pure (i := 7) (oi := ({ dst := some 53, op := Op.fieldAddr 59 (Operand.tmp 3) 3, type := 0, pos := "dtd.go:88", after := #[], guard := none } : Oper)) (v := ?_) rfl (by kernel_rfl) (by kernel_rfl) (by kernel_rfl) (by kernel_rfl) (fun _ _ _ h => h) (Or.inl ⟨by rfl, ?_⟩) (by assumption) (by kernel_rfl) ?_
  rotate_left 1
  · intro w hSw; clear hSw; go_simp; try with_reducible rfl
  (try simp only [Act.put, List.setIfInBounds_toArray, List.set_cons_zero, List.set_cons_succ])
  refine wpAnyL_take (i := 8) 0 (oi := ({ dst := some 54, op := Op.load 46 (Operand.tmp 53), type := 46, pos := "dtd.go:88", after := #[{ on := 7, ground := Ground.data }], guard := none } : Oper)) (v := ?_) rfl (by kernel_rfl) (by kernel_rfl) (by kernel_rfl) rfl (by kernel_rfl) (by kernel_rfl) (by kernel_rfl) (fun _ _ _ h => h) (Or.inl ⟨by rfl, ?_⟩) (by assumption) (by kernel_rfl) ?_
  rotate_left 1
  · intro w hSw; (try dsimp only at hSw); go_simp; try with_reducible rfl
  (try simp only [Act.put, List.setIfInBounds_toArray, List.set_cons_zero, List.set_cons_succ])
  --END
  refine wpAnyL_ready (rs := [9]) (by kernel_rfl) (by simp) ?_
  refine AllReadyL.cons (o := _) rfl (fun K hK => ?_) AllReadyL.nil
  go_simp
  refine CA.out.mono ?_
  intro e w7 hadd
  have he := hadd.1
  subst he
  obtain ⟨T7, hk7, hst7⟩ := putGen (HT2.out.below (Below.refl _ _).drew) ⟨ena, etx, eout, epu, esy, eno⟩ hadd
  have K7 := Lib.hid ((TabKept.refl T0.out (HB.out.trans (Below.refl _ _).drew)).trans hk7)
  have ST7 := Lib.hid hst7
  dsimp only
  refine hK.out _ _ ⟨.inl (by rfl), trivial⟩ (fun hC1 => ?_)
  clear hK K hC0 hadd CA hk7 hst7
  (try simp only [Act.put, List.setIfInBounds_toArray, List.set_cons_zero, List.set_cons_succ])
  refine wpAnyL_done (by kernel_rfl) ?_ _
  clear hC1
  go_wp2
  go_ret
  exact ⟨rfl, T7, K7.out, ST7.out⟩
set_option maxHeartbeats 4000000 in
theorem add_not (base tb : Nat) (T : Tm) (d : Dc) (w : World) (h : TabAt w base tb T) (hb : base ≤ w.heap.size) (hns : d.na.size ≤ maxLen) (hl : T.nots.length ≤ 1048575) (h1 : d.ki = 3) :
    Calls Tryd.prog 26 #[.pointer (some ⟨tb, 0, none⟩), d.v] w (TabTold base tb T { T.st with nots := addBy (·.1) T.nots (d.na, d.pu, d.sy) } (.int .i64 0) w) := by
  obtain ⟨ki, na, pm, ⟨ena, etx, eout, epu, esy, eno⟩, ds, A, c, pu, sy, tx⟩ := d
  dsimp only [Dc.pl] at *
  subst h1
  obtain ⟨w2, hW, hsW, hBW, bx⟩ := boxWorld w #[.int .i64 3, .string na, .bool pm, .string ena, .string etx, .bool eout, .string epu, .string esy, .string eno, .slice A ds.length c, .string pu, .string sy, .string tx] 59
  have BX := Lib.hid bx
  have HBW := Lib.hid hBW
  have HT := Lib.hid (h.below hBW)
  have T0 := Lib.hid h
  have x0 := cellsOf_block bx (j := 0) rfl
  have HNS := Lib.hid hns
  have HL := Lib.hid hl
  clear hns hl
  show Calls _ _ #[_, .agg #[.int .i64 3, .string na, .bool pm, .string ena, .string etx, .bool eout, .string epu, .string esy, .string eno, .slice A ds.length c, .string pu, .string sy, .string tx]] _ _
  clear h bx hBW
  go_enter Tryd.func26, Tryd.ntmps26
  go_upto_region 1 with (fail)
  clear hW
  have BX2 := BX
  have HB := HBW
  have HT2 := HT
  have k1 : w2.drew.cell? ⟨tb, 2, none⟩ = some (.pointer (some ⟨T.n.rb, 0, none⟩)) := HT2.out.cell.2.2.1
  have y1 : w2.drew.cell? ⟨w.heap.size, 1, none⟩ = some (.string na) := cellsOf_block BX2.out (j := 1) rfl
  have y10 : w2.drew.cell? ⟨w.heap.size, 10, none⟩ = some (.string pu) := cellsOf_block BX2.out (j := 10) rfl
  have y11 : w2.drew.cell? ⟨w.heap.size, 11, none⟩ = some (.string sy) := cellsOf_block BX2.out (j := 11) rfl
  have CA := Lib.hid (addEx_any base T.n (T.nots.map (·.1)) (ntCells T.nots) na pu sy w2.drew (HT2.out.below (Below.refl _ _).drew).nots HNS.out (by rw [List.length_map]; have := HL.out; omega) (Nat.le_trans hb HB.out.size))
  go_wp2_with fail
  refine wp_region_late [(8, fun V => V.cell? ⟨tb, 2, none⟩ = some (.pointer (some ⟨T.n.rb, 0, none⟩)) ∧ V.cell? ⟨w.heap.size, 1, none⟩ = some (.string na) ∧ V.cell? ⟨w.heap.size, 10, none⟩ = some (.string pu) ∧ V.cell? ⟨w.heap.size, 11, none⟩ = some (.string sy))] (by kernel_rfl) ⟨.inr ⟨k1, y1, y10, y11⟩, trivial⟩ (fun hC0 => ?_)
  --REG (*narthex/dtd.Table).Add:13 0 1 2 3@0 4 5@0 6 7@0
  refine wpAnyL_pure (i := 0) (oi := ({ dst := some 58, op := Op.move (Operand.tmp 0), type := 25, pos := "dtd.go:91", after := #[], guard := none } : Oper)) (v := ?_) rfl (by kernel_rfl) (by kernel_rfl) (by kernel_rfl) (by kernel_rfl) (fun _ _ _ h => h) (Or.inl ⟨by rfl, ?_⟩) (by assumption) (by kernel_rfl) ?_
  rotate_left 1
  · intro w hSw; clear hSw; go_simp; try with_reducible rfl
  (try simp only [Act.put, List.setIfInBounds_toArray, List.set_cons_zero, List.set_cons_succ])
  refine wpAnyL_pure (i := 1) (oi := ({ dst := some 59, op := Op.nilCheck (Operand.tmp 58), type := 0, pos := "dtd.go:91", after := #[{ on := 0, ground := Ground.data }], guard := none } : Oper)) (v := ?_) rfl (by kernel_rfl) (by kernel_rfl) (by kernel_rfl) (by kernel_rfl) (fun _ _ _ h => h) (Or.inl ⟨by rfl, ?_⟩) (by assumption) (by kernel_rfl) ?_
  rotate_left 1
  · intro w hSw; clear hSw; go_simp; try with_reducible rfl
  (try simp only [Act.put, List.setIfInBounds_toArray, List.set_cons_zero, List.set_cons_succ])
  refine wpAnyL_pure (i := 2) (oi := ({ dst := some 60, op := Op.fieldAddr 71 (Operand.tmp 59) 2, type := 0, pos := "dtd.go:91", after := #[{ on := 1, ground := Ground.data }], guard := none } : Oper)) (v := ?_) rfl (by kernel_rfl) (by kernel_rfl) (by kernel_rfl) (by kernel_rfl) (fun _ _ _ h => h) (Or.inl ⟨by rfl, ?_⟩) (by assumption) (by kernel_rfl) ?_
  rotate_left 1
  · intro w hSw; clear hSw; go_simp; try with_reducible rfl
  (try simp only [Act.put, List.setIfInBounds_toArray, List.set_cons_zero, List.set_cons_succ])
  refine wpAnyL_take (i := 3) 0 (oi := ({ dst := some 61, op := Op.load 68 (Operand.tmp 60), type := 68, pos := "dtd.go:91", after := #[{ on := 2, ground := Ground.data }], guard := none } : Oper)) (v := ?_) rfl (by kernel_rfl) (by kernel_rfl) (by kernel_rfl) rfl (by kernel_rfl) (by kernel_rfl) (by kernel_rfl) (fun _ _ _ h => h) (Or.inl ⟨by rfl, ?_⟩) (by assumption) (by kernel_rfl) ?_
  rotate_left 1
  · intro w hSw; (try dsimp only at hSw); go_simp; try with_reducible rfl
  (try simp only [Act.put, List.setIfInBounds_toArray, List.set_cons_zero, List.set_cons_succ])
  refine wpAnyL_pure (i := 4) (oi := ({ dst := some 62, op := Op.fieldAddr 59 (Operand.tmp 3) 1, type := 0, pos := "dtd.go:91", after := #[], guard := none } : Oper)) (v := ?_) rfl (by kernel_rfl) (by kernel_rfl) (by kernel_rfl) (by kernel_rfl) (fun _ _ _ h => h) (Or.inl ⟨by rfl, ?_⟩) (by assumption) (by kernel_rfl) ?_
  rotate_left 1
  · intro w hSw; clear hSw; go_simp; try with_reducible rfl
  (try simp only [Act.put, List.setIfInBounds_toArray, List.set_cons_zero, List.set_cons_succ])
  refine wpAnyL_take (i := 5) 0 (oi := ({ dst := some 63, op := Op.load 9 (Operand.tmp 62), type := 9, pos := "dtd.go:91", after := #[{ on := 4, ground := Ground.data }], guard := none } : Oper)) (v := ?_) rfl (by kernel_rfl) (by kernel_rfl) (by kernel_rfl) rfl (by kernel_rfl) (by kernel_rfl) (by kernel_rfl) (fun _ _ _ h => h) (Or.inl ⟨by rfl, ?_⟩) (by assumption) (by kernel_rfl) ?_
  rotate_left 1
  · intro w hSw; (try dsimp only at hSw); go_simp; try with_reducible rfl
  (try simp only [Act.put, List.setIfInBounds_toArray, List.set_cons_zero, List.set_cons_succ])
  refine wpAnyL_pure (i := 6) (oi := ({ dst := some 64, op := Op.fieldAddr 59 (Operand.tmp 3) 5, type := 0, pos := "dtd.go:91", after := #[], guard := none } : Oper)) (v := ?_) rfl (by kernel_rfl) (by kernel_rfl) (by kernel_rfl) (by kernel_rfl) (fun _ _ _ h => h) (Or.inl ⟨by rfl, ?_⟩) (by assumption) (by kernel_rfl) ?_
  rotate_left 1
  · intro w hSw; clear hSw; go_simp; try with_reducible rfl
  (try simp only [Act.put, List.setIfInBounds_toArray, List.set_cons_zero, List.set_cons_succ])
  refine wpAnyL_take (i := 7) 0 (oi := ({ dst := some 65, op := Op.load 44 (Operand.tmp 64), type := 44, pos := "dtd.go:91", after := #[{ on := 6, ground := Ground.data }], guard := none } : Oper)) (v := ?_) rfl (by kernel_rfl) (by kernel_rfl) (by kernel_rfl) rfl (by kernel_rfl) (by kernel_rfl) (by kernel_rfl) (fun _ _ _ h => h) (Or.inl ⟨by rfl, ?_⟩) (by assumption) (by kernel_rfl) ?_
  rotate_left 1
  · intro w hSw; (try dsimp only at hSw); go_simp; try with_reducible rfl
  (try simp only [Act.put, List.setIfInBounds_toArray, List.set_cons_zero, List.set_cons_succ])
  --END
  refine wpAnyL_ready (rs := [8]) (by kernel_rfl) (by simp) ?_
  refine AllReadyL.cons (o := _) rfl (fun K hK => ?_) AllReadyL.nil
  go_simp
  refine CA.out.mono ?_
  intro e w7 hadd
  have he := hadd.1
  subst he
  obtain ⟨T7, hk7, hst7⟩ := putNot (HT2.out.below (Below.refl _ _).drew) (na, pu, sy) hadd
  have K7 := Lib.hid ((TabKept.refl T0.out (HB.out.trans (Below.refl _ _).drew)).trans hk7)
  have ST7 := Lib.hid hst7
  dsimp only
  refine hK.out _ _ ⟨.inl (by rfl), trivial⟩ (fun hC1 => ?_)
  clear hK K hC0 hadd CA hk7 hst7
  (try simp only [Act.put, List.setIfInBounds_toArray, List.set_cons_zero, List.set_cons_succ])
  refine wpAnyL_done (by kernel_rfl) ?_ _
  clear hC1
  go_wp2
  go_ret
  exact ⟨rfl, T7, K7.out, ST7.out⟩
set_option maxHeartbeats 4000000 in
theorem add_list (base tb : Nat) (T : Tm) (d : Dc) (w : World) (h : TabAt w base tb T) (hb : base ≤ w.heap.size) (hd : DfsAt w d.A d.ds.length d.ds) (hoff : Off T.foot d.A) (hoffw : ∀ x ∈ d.ds, 0 < x.p.ws.length → Off T.foot x.A)
    (hns : d.na.size ≤ maxLen) (hds : ∀ x ∈ d.ds, x.p.na.size ≤ maxLen ∧ x.p.ws.length ≤ 1048576) (hel : T.els.length ≤ 1048575) (hdn : ∀ x ∈ T.els, x.ds.length + d.ds.length ≤ 1048576) (hn : d.ds.length ≤ 1048576) (h1 : d.ki = 2) :
    Calls Tryd.prog 26 #[.pointer (some ⟨tb, 0, none⟩), d.v] w (TabTold base tb T { T.st with els := addEl T.st.els d.na (d.ds.map Df.p) } (.int .i64 0) w) := by
  obtain ⟨ki, na, pm, ⟨ena, etx, eout, epu, esy, eno⟩, ds, A, c, pu, sy, tx⟩ := d
  dsimp only [Dc.pl] at *
  subst h1
  obtain ⟨W, hW, hsW, hBW, bx⟩ := boxWorld w #[.int .i64 2, .string na, .bool pm, .string ena, .string etx, .bool eout, .string epu, .string esy, .string eno, .slice A ds.length c, .string pu, .string sy, .string tx] 59
  have BX := Lib.hid bx
  have HBW := Lib.hid hBW
  have HT := Lib.hid (h.below hBW)
  have T0 := Lib.hid h
  have x0 := cellsOf_block bx (j := 0) rfl
  have x1 := cellsOf_block bx (j := 1) rfl
  have x9 := cellsOf_block bx (j := 9) rfl
  have CL := Lib.hid (list_any base tb T na A ds.length c ds W (h.below hBW) (Nat.le_trans hb hBW.size) (hd.below hBW) hoff hoffw hns hds hel hdn hn)
  clear hd hoff hoffw hns hds hel hdn hn
  show Calls _ _ #[_, .agg #[.int .i64 2, .string na, .bool pm, .string ena, .string etx, .bool eout, .string epu, .string esy, .string eno, .slice A ds.length c, .string pu, .string sy, .string tx]] _ _
  clear h bx hBW
  go_enter Tryd.func26, Tryd.ntmps26
  go_upto_region 1 with (fail)
  clear hW
  go_wp2_with fail
  refine CL.out.mono ?_
  rintro e w7 ⟨rfl, T7, hk7, hst7⟩
  have K7 := Lib.hid ((TabKept.refl T0.out HBW.out).trans hk7)
  have ST7 := Lib.hid hst7
  clear hk7 hst7 CL
  go_wp2
  go_ret
  exact ⟨rfl, T7, K7.out, ST7.out⟩
theorem tOk_bad {d : DcP} (h : d.ki < 1 ∨ 6 < d.ki) : tOk d = 2 := if_pos h
theorem tAdd_bad {d : DcP} (S : TSt) (h : d.ki < 1 ∨ 6 < d.ki) : tAdd S d = S := by
  unfold tAdd
  rw [if_neg (by omega), if_neg (by omega), if_neg (by omega)]
/-- dtd.Table.Add, at any declaration. -/
theorem add_any (base tb : Nat) (T : Tm) (d : Dc) (w : World) (h : TabAt w base tb T) (hb : base ≤ w.heap.size) (hK : KnownAt w) (hd : DfsAt w d.A d.ds.length d.ds) (hoff : Off T.foot d.A) (hoffw : ∀ x ∈ d.ds, 0 < x.p.ws.length → Off T.foot x.A)
    (hen : d.en.na.size ≤ maxLen) (hns : d.na.size ≤ maxLen) (hds : ∀ x ∈ d.ds, x.p.na.size ≤ maxLen ∧ x.p.ws.length ≤ 1048576) (hl : T.gens.length ≤ 1048575 ∧ T.pars.length ≤ 1048575 ∧ T.nots.length ≤ 1048575 ∧ T.els.length ≤ 1048575) (hdn : ∀ x ∈ T.els, x.ds.length + d.ds.length ≤ 1048576) (hn : d.ds.length ≤ 1048576) :
    Calls Tryd.prog 26 #[.pointer (some ⟨tb, 0, none⟩), d.v] w (TabTold base tb T (tAdd T.st d.pl) (.int .i64 (tOk d.pl)) w) := by
  by_cases hbad : d.ki < 1 ∨ 6 < d.ki
  · rw [tAdd_bad (d := d.pl) _ hbad, tOk_bad (d := d.pl) hbad]
    exact add_bad base tb T d w h hbad
  have e0 : tOk d.pl = 0 := if_neg hbad
  rw [e0]
  have hbad : 1 ≤ d.ki ∧ d.ki ≤ 6 := by omega
  by_cases h1 : d.ki = 1
  · cases h2 : d.pm with
    | true =>
      have e : tAdd T.st d.pl = { T.st with pars := addBy Ent.na T.pars d.en } := by
        unfold tAdd; rw [if_pos (show d.pl.ki = 1 from h1), if_pos (show d.pl.pm = true from h2)]; rfl
      rw [e]
      exact add_par base tb T d w h hb hen hl.2.1 hK h1 h2
    | false =>
      by_cases h3 : 0 < knownN d.en.na
      · have e : tAdd T.st d.pl = T.st := by
          unfold tAdd; rw [if_pos (show d.pl.ki = 1 from h1), if_neg (show ¬ d.pl.pm = true from by show ¬ d.pm = true; rw [h2]; decide), if_pos (show 0 < knownN d.pl.en.na from h3)]
        rw [e]
        exact add_known base tb T d w h hK h1 h2 h3
      · have e : tAdd T.st d.pl = { T.st with gens := addBy Ent.na T.gens d.en } := by
          unfold tAdd; rw [if_pos (show d.pl.ki = 1 from h1), if_neg (show ¬ d.pl.pm = true from by show ¬ d.pm = true; rw [h2]; decide), if_neg (show ¬ 0 < knownN d.pl.en.na from h3)]; rfl
        rw [e]
        exact add_gen base tb T d w h hb hen hl.1 hK h1 h2 h3
  by_cases h3 : d.ki = 3
  · have e : tAdd T.st d.pl = { T.st with nots := addBy (·.1) T.nots (d.na, d.pu, d.sy) } := by
      unfold tAdd; rw [if_neg (show ¬ d.pl.ki = 1 from h1), if_pos (show d.pl.ki = 3 from h3)]; rfl
    rw [e]
    exact add_not base tb T d w h hb hns hl.2.2.1 h3
  by_cases h2 : d.ki = 2
  · have e : tAdd T.st d.pl = { T.st with els := addEl T.st.els d.na (d.ds.map Df.p) } := by
      unfold tAdd; rw [if_neg (show ¬ d.pl.ki = 1 from h1), if_neg (show ¬ d.pl.ki = 3 from h3), if_pos (show d.pl.ki = 2 from h2)]; rfl
    rw [e]
    exact add_list base tb T d w h hb hd hoff hoffw hns hds hl.2.2.2 hdn hn h2
  · have e : tAdd T.st d.pl = T.st := by
      unfold tAdd; rw [if_neg (show ¬ d.pl.ki = 1 from h1), if_neg (show ¬ d.pl.ki = 3 from h3), if_neg (show ¬ d.pl.ki = 2 from h2)]
    rw [e]
    exact add_other base tb T d w h (by omega) hbad.2
end Go.Proofs.YtapjmfgpdkghlaaDoor
