/- What a table of declarations tells: Generals, Params, General, Param, Notation. Conditions: rows of at most 2^20. -/
import Derived.Test.YtapjmfgpdkghlaaDoorDtEnts
namespace Go.Proofs.YtapjmfgpdkghlaaDoor
open Go.RowKit Go.Maps
set_option linter.unusedVariables false
set_option linter.unusedSimpArgs false
def TellEns (l : List Ent) (w : World) (e : Ending) (w' : World) : Prop := ∃ A c, e = .returned (.slice A l.length c) ∧ w'.ownsRow w.heap.size 46 6 (.slice A l.length c) l.length (entCells l) ∧ Below w.heap.size w w'
theorem eqEnsSome (a : Addr) (n c : Nat) (W : World) : (binOp .eql 37 (.slice (some a) n c) (.slice none 0 0)).run Tryd.prog W = .ok (.bool false) W := by kernel_rfl
theorem eqEnsNone (n c : Nat) (W : World) : (binOp .eql 37 (.slice none n c) (.slice none 0 0)).run Tryd.prog W = .ok (.bool true) W := by kernel_rfl
theorem entCells_len (l : List Ent) : (entCells l).length = l.length * 6 := by
  unfold entCells
  induction l with
  | nil => rfl
  | cons x l ih => rw [List.flatMap_cons, List.length_append, ih, List.length_cons]; show 6 + _ = _; omega
theorem one_cells {f : Ent → List Value} : ∀ (l : List Ent) u, u ∈ entCells l → u.oneCell' = true := by
  intro l u hu
  unfold entCells at hu
  obtain ⟨x, _, hx⟩ := List.mem_flatMap.1 hu
  simp only [Ent.cells, List.mem_cons, List.not_mem_nil, or_false] at hx
  rcases hx with rfl | rfl | rfl | rfl | rfl | rfl <;> rfl
set_option maxRecDepth 100000 in
set_option maxHeartbeats 2000000 in
theorem cloneEns_any (A : Option Addr) (base c : Nat) (l : List Ent) (w : World) (h : w.ownsRow base 46 6 (.slice A l.length c) l.length (entCells l)) (hn : l.length ≤ 1048576) :
    Calls Tryd.prog 34 #[.slice A l.length c] w (TellEns l w) := by
  obtain ⟨i0, hi0, hz0, hz1, hz2⟩ := info_partsD Tryd.infoDEn
  cases A with
  | none =>
    have hl : l = [] := by
      rcases Nat.eq_zero_or_pos l.length with h0 | h0
      · exact List.eq_nil_of_length_eq_zero h0
      · obtain ⟨g, hg⟩ := row_base h h0
        cases hg
    subst hl
    clear h
    have q0 := eqEnsNone 0 c
    go_enter Tryd.func34, Tryd.ntmps34
    go_wp2
    go_ret
    exact ⟨none, 0, rfl, World.ownsRow_nil _ _ _ _, Below.refl _ _⟩
  | some a =>
    have hB : Below w.heap.size w (w.alloc (.cells #[] 46)) := (Below.refl _ w).alloc (Nat.le_refl _) _
    have HC2 : Hid (∀ (j : Nat) (u : Value), (entCells l)[j]? = some u → (w.alloc (.cells #[] 46)).cell? (a.add j) = some u) := by
      intro j u hj
      have h0 : w.cell? (a.add j) = some u := by
        have h1 := (List.getElem?_eq_some_iff.1 hj).1
        rw [entCells_len] at h1
        obtain ⟨g, hg⟩ := row_base h (by omega)
        cases hg
        exact h.cells rfl j u hj
      have hlt : (a.add j).block < w.heap.size := World.block_lt_of_cell? _ _ h0
      exact (hB.cell hlt).trans h0
    have hO : (w.alloc (.cells #[] 46)).ownsRow w.heap.size 46 6 (.slice (some ⟨w.heap.size, 0, none⟩) 0 0) 0 [] := World.ownsRow_lit w #[] 0 (Nat.le_refl _) (by unfold maxLen; omega) rfl
    have HO := Lib.hid hO
    have HB := Lib.hid hB
    clear h
    have q0 := eqEnsSome a l.length c
    go_enter Tryd.func34, Tryd.ntmps34
    go_wp2_with (at_builtin; refine wpList_append_own _ rfl (.tmp 5) (.tmp 6) 37 rfl w.heap.size 46 i0 _ 6 88 Tryd.underlying37 hi0 hz0 hz1 hz2 rfl (by decide) _ 0 [] rfl HO.out a l.length c (entCells l) rfl (entCells_len l) HC2.out (one_cells (f := Ent.cells) l) (by unfold maxLen; omega) (by omega) (by simp) ?_)
    intro v' w2 hown' hgrow _
    have HB2 := HB.out.grown hgrow (by simp) (fun g hg => (HO.out.lt g hg).1)
    obtain ⟨A2, c2, rfl, _⟩ := own_shapeD hown'
    go_wp2
    go_ret
    exact ⟨A2, c2, by simp, by simpa using hown', HB2⟩
variable {w : World} {base tb : Nat} {T : Tm}
theorem TabAt.rows2 (h : TabAt w base tb T) : w.cell? ⟨T.g.rb, 1, none⟩ = some (.slice T.g.A T.gens.length T.g.c) ∧ w.cell? ⟨T.p.rb, 1, none⟩ = some (.slice T.p.A T.pars.length T.p.c) ∧ w.cell? ⟨T.n.rb, 1, none⟩ = some (.slice T.n.A T.nots.length T.n.c) ∧ w.cell? ⟨T.e.rb, 1, none⟩ = some (.slice T.e.A T.els.length T.e.c) := by
  have h1 := h.gens.blk.cell1
  have h2 := h.pars.blk.cell1
  have h3 := h.nots.blk.cell1
  have h4 := h.els.blk.cell1
  rw [List.length_map] at h1 h2 h3 h4
  exact ⟨h1, h2, h3, h4⟩
theorem TabAt.ownG (h : TabAt w base tb T) : w.ownsRow base 46 6 (.slice T.g.A T.gens.length T.g.c) T.gens.length (entCells T.gens) := by
  have := h.gens.row; rwa [List.length_map] at this
theorem TabAt.ownP (h : TabAt w base tb T) : w.ownsRow base 46 6 (.slice T.p.A T.pars.length T.p.c) T.pars.length (entCells T.pars) := by
  have := h.pars.row; rwa [List.length_map] at this
theorem generals_any (h : TabAt w base tb T) (hn : T.gens.length ≤ 1048576) : Calls Tryd.prog 15 #[.pointer (some ⟨tb, 0, none⟩)] w (TellEns T.gens w) := by
  have C := Lib.hid (cloneEns_any T.g.A base T.g.c T.gens w h.ownG hn)
  have c0 := h.cell.1
  have c1 := h.rows2.1
  clear h
  go_enter Tryd.func15, Tryd.ntmps15
  go_wp2_with fail
  refine C.out.mono ?_
  rintro e w' ⟨A, c, rfl, h1, h2⟩
  have H1 := Lib.hid h1
  have H2 := Lib.hid h2
  clear h1 h2 C
  go_wp2
  go_ret
  exact ⟨A, c, rfl, H1.out, H2.out⟩
theorem params_any (h : TabAt w base tb T) (hn : T.pars.length ≤ 1048576) : Calls Tryd.prog 17 #[.pointer (some ⟨tb, 0, none⟩)] w (TellEns T.pars w) := by
  have C := Lib.hid (cloneEns_any T.p.A base T.p.c T.pars w h.ownP hn)
  have c0 := h.cell.2.1
  have c1 := h.rows2.2.1
  clear h
  go_enter Tryd.func17, Tryd.ntmps17
  go_wp2_with fail
  refine C.out.mono ?_
  rintro e w' ⟨A, c, rfl, h1, h2⟩
  have H1 := Lib.hid h1
  have H2 := Lib.hid h2
  clear h1 h2 C
  go_wp2
  go_ret
  exact ⟨A, c, rfl, H1.out, H2.out⟩
def Ent.zero : Ent := ⟨⟨#[]⟩, ⟨#[]⟩, false, ⟨#[]⟩, ⟨#[]⟩, ⟨#[]⟩⟩
def Ent.v (x : Ent) : Value := .agg #[.string x.na, .string x.tx, .bool x.out, .string x.pu, .string x.sy, .string x.no]
/-- An entity of a name. -/
def findE (l : List Ent) (s : ByteArray) : Ent := if hasT (l.map Ent.na) s = true then l.getD (idxT (l.map Ent.na) s) Ent.zero else Ent.zero
def TellE (l : List Ent) (s : ByteArray) (w : World) (e : Ending) (w' : World) : Prop := e = .returned (.tuple #[(findE l s).v, .bool (hasT (l.map Ent.na) s)]) ∧ Below w.heap.size w w'
theorem getE_any (R : Rm) (l : List Ent) (s : ByteArray) (h : RowAt w base 87 46 6 R (l.map Ent.na) (entCells l)) (hs : s.size ≤ maxLen) (hl : l.length ≤ 1048576) :
    Calls Tryd.prog 37 #[.pointer (some ⟨R.rb, 0, none⟩), .string s] w (TellE l s w) := by
  cases hh : hasT (l.map Ent.na) s with
  | false =>
    have e : findE l s = Ent.zero := if_neg (by rw [hh]; decide)
    refine (miss_En base R _ _ s w h hs hh).mono ?_
    rintro e w' ⟨rfl, hB⟩
    exact ⟨by rw [e, hh]; rfl, hB⟩
  | true =>
    have hlt := idxT_lt hh
    rw [List.length_map] at hlt
    have e : findE l s = l[idxT (l.map Ent.na) s] := by
      unfold findE
      rw [if_pos hh, List.getD_eq_getElem?_getD, List.getElem?_eq_getElem hlt]; rfl
    refine (getEn_any base R _ _ s (findE l s) w h hs (by rw [List.length_map]; exact hl) hh (fun j u hj => ?_)).mono ?_
    · rw [e] at hj
      exact flat_at Ent.cells 6 (fun _ => rfl) l _ _ j u (List.getElem?_eq_getElem hlt) hj
    · rintro e w' ⟨rfl, hB⟩
      exact ⟨by rw [hh]; rfl, hB⟩
set_option maxHeartbeats 2000000 in
theorem general_any (h : TabAt w base tb T) (s : ByteArray) (hs : s.size ≤ maxLen) (hn : T.gens.length ≤ 1048576) : Calls Tryd.prog 21 #[.pointer (some ⟨tb, 0, none⟩), .string s] w (TellE T.gens s w) := by
  obtain ⟨W, hW, hsW, hBW, bx⟩ := boxWorld w #[.string ⟨#[]⟩, .string ⟨#[]⟩, .bool false, .string ⟨#[]⟩, .string ⟨#[]⟩, .string ⟨#[]⟩] 46
  have hT := h.below hBW
  have C := Lib.hid (getE_any T.g T.gens s hT.gens hs hn)
  have c0 := hT.cell.1
  have BX := Lib.hid bx
  have HBW := Lib.hid hBW
  clear h hT bx hBW hs hn
  go_enter Tryd.func21, Tryd.ntmps21
  go_upto_region 1 with (fail)
  clear hW
  go_wp2_with fail
  refine C.out.mono ?_
  rintro e w1 ⟨rfl, hB⟩
  have b1 := (hB.block w.heap.size (Array.getElem?_eq_some_iff.1 BX.out).1).trans BX.out
  have HB := Lib.hid (HBW.out.trans (hB.mono HBW.out.size))
  have B1 := Lib.hid b1
  have y0 := cellsOf_block b1 (j := 0) rfl
  have m0 := Lib.frozen_of_heap b1 0
  have y1 := cellsOf_block b1 (j := 1) rfl
  have m1 := Lib.frozen_of_heap b1 1
  have y2 := cellsOf_block b1 (j := 2) rfl
  have m2 := Lib.frozen_of_heap b1 2
  have y3 := cellsOf_block b1 (j := 3) rfl
  have m3 := Lib.frozen_of_heap b1 3
  have y4 := cellsOf_block b1 (j := 4) rfl
  have m4 := Lib.frozen_of_heap b1 4
  have y5 := cellsOf_block b1 (j := 5) rfl
  have m5 := Lib.frozen_of_heap b1 5
  clear hB C b1 c0
  generalize hE0 : findE T.gens s = E
  generalize hO0 : hasT (T.gens.map Ent.na) s = ok
  have HE := Lib.hid hE0
  have HO := Lib.hid hO0
  clear hE0 hO0
  obtain ⟨ea, eb, ec, ed, ee, ef⟩ := E
  dsimp only [Ent.v]
  go_wp2
  have hV : ((((((w1.setCell ⟨w.heap.size, 0, none⟩ (.string ea)).setCell ⟨w.heap.size, 1, none⟩ (.string eb)).setCell ⟨w.heap.size, 2, none⟩ (.bool ec)).setCell ⟨w.heap.size, 3, none⟩ (.string ed)).setCell ⟨w.heap.size, 4, none⟩ (.string ee)).setCell ⟨w.heap.size, 5, none⟩ (.string ef)).heap[w.heap.size]? = some (.cells #[.string ea, .string eb, .bool ec, .string ed, .string ee, .string ef] 46 (0, 0)) := by simpa using (Go.Joins.block_setCell (Go.Joins.block_setCell (Go.Joins.block_setCell (Go.Joins.block_setCell (Go.Joins.block_setCell (Go.Joins.block_setCell B1.out (.string ea) (i := 0)) (.string eb) (i := 1)) (.bool ec) (i := 2)) (.string ed) (i := 3)) (.string ee) (i := 4)) (.string ef) (i := 5))
  have hE : Below w.heap.size w ((((((w1.setCell ⟨w.heap.size, 0, none⟩ (.string ea)).setCell ⟨w.heap.size, 1, none⟩ (.string eb)).setCell ⟨w.heap.size, 2, none⟩ (.bool ec)).setCell ⟨w.heap.size, 3, none⟩ (.string ed)).setCell ⟨w.heap.size, 4, none⟩ (.string ee)).setCell ⟨w.heap.size, 5, none⟩ (.string ef)) := ((((((HB.out.setCell (p := ⟨w.heap.size, 0, none⟩) (Nat.le_refl _) (.string ea)).setCell (p := ⟨w.heap.size, 1, none⟩) (Nat.le_refl _) (.string eb)).setCell (p := ⟨w.heap.size, 2, none⟩) (Nat.le_refl _) (.bool ec)).setCell (p := ⟨w.heap.size, 3, none⟩) (Nat.le_refl _) (.string ed)).setCell (p := ⟨w.heap.size, 4, none⟩) (Nat.le_refl _) (.string ee)).setCell (p := ⟨w.heap.size, 5, none⟩) (Nat.le_refl _) (.string ef))
  generalize ((((((w1.setCell ⟨w.heap.size, 0, none⟩ (.string ea)).setCell ⟨w.heap.size, 1, none⟩ (.string eb)).setCell ⟨w.heap.size, 2, none⟩ (.bool ec)).setCell ⟨w.heap.size, 3, none⟩ (.string ed)).setCell ⟨w.heap.size, 4, none⟩ (.string ee)).setCell ⟨w.heap.size, 5, none⟩ (.string ef)) = V at hV hE ⊢
  have d0 := cellsOf_block hV (j := 0) rfl
  have d1 := cellsOf_block hV (j := 1) rfl
  have d2 := cellsOf_block hV (j := 2) rfl
  have d3 := cellsOf_block hV (j := 3) rfl
  have d4 := cellsOf_block hV (j := 4) rfl
  have d5 := cellsOf_block hV (j := 5) rfl
  refine bodyPost_ret (v := .tuple #[.agg #[.string ea, .string eb, .bool ec, .string ed, .string ee, .string ef], .bool ok]) (by simp [results, Tryd.results21, go_sem, d0, d1, d2, d3, d4, d5]) rfl ?_
  unfold TellE
  rw [HE.out, HO.out]
  exact ⟨rfl, hE⟩
def NoneGeneral (w : World) (e : Ending) (w' : World) : Prop := e = .returned (.tuple #[Ent.zero.v, .bool false]) ∧ Below w.heap.size w w'
theorem general_nil (s : ByteArray) (w : World) : Calls Tryd.prog 21 #[.pointer none, .string s] w (NoneGeneral w) := by
  obtain ⟨W, hW, hsW, hBW, bx⟩ := boxWorld w #[.string ⟨#[]⟩, .string ⟨#[]⟩, .bool false, .string ⟨#[]⟩, .string ⟨#[]⟩, .string ⟨#[]⟩] 46
  have B1 := Lib.hid bx
  have HB := Lib.hid hBW
  have y0 := cellsOf_block bx (j := 0) rfl
  have m0 := Lib.frozen_of_heap bx 0
  have y1 := cellsOf_block bx (j := 1) rfl
  have m1 := Lib.frozen_of_heap bx 1
  have y2 := cellsOf_block bx (j := 2) rfl
  have m2 := Lib.frozen_of_heap bx 2
  have y3 := cellsOf_block bx (j := 3) rfl
  have m3 := Lib.frozen_of_heap bx 3
  have y4 := cellsOf_block bx (j := 4) rfl
  have m4 := Lib.frozen_of_heap bx 4
  have y5 := cellsOf_block bx (j := 5) rfl
  have m5 := Lib.frozen_of_heap bx 5
  clear bx hBW
  go_enter Tryd.func21, Tryd.ntmps21
  go_upto_region 1 with (fail)
  clear hW
  go_wp2
  have hV : ((((((W.setCell ⟨w.heap.size, 0, none⟩ (.string ⟨#[]⟩)).setCell ⟨w.heap.size, 1, none⟩ (.string ⟨#[]⟩)).setCell ⟨w.heap.size, 2, none⟩ (.bool false)).setCell ⟨w.heap.size, 3, none⟩ (.string ⟨#[]⟩)).setCell ⟨w.heap.size, 4, none⟩ (.string ⟨#[]⟩)).setCell ⟨w.heap.size, 5, none⟩ (.string ⟨#[]⟩)).heap[w.heap.size]? = some (.cells #[.string ⟨#[]⟩, .string ⟨#[]⟩, .bool false, .string ⟨#[]⟩, .string ⟨#[]⟩, .string ⟨#[]⟩] 46 (0, 0)) := by simpa using (Go.Joins.block_setCell (Go.Joins.block_setCell (Go.Joins.block_setCell (Go.Joins.block_setCell (Go.Joins.block_setCell (Go.Joins.block_setCell B1.out (.string ⟨#[]⟩) (i := 0)) (.string ⟨#[]⟩) (i := 1)) (.bool false) (i := 2)) (.string ⟨#[]⟩) (i := 3)) (.string ⟨#[]⟩) (i := 4)) (.string ⟨#[]⟩) (i := 5))
  have hE : Below w.heap.size w ((((((W.setCell ⟨w.heap.size, 0, none⟩ (.string ⟨#[]⟩)).setCell ⟨w.heap.size, 1, none⟩ (.string ⟨#[]⟩)).setCell ⟨w.heap.size, 2, none⟩ (.bool false)).setCell ⟨w.heap.size, 3, none⟩ (.string ⟨#[]⟩)).setCell ⟨w.heap.size, 4, none⟩ (.string ⟨#[]⟩)).setCell ⟨w.heap.size, 5, none⟩ (.string ⟨#[]⟩)) := ((((((HB.out.setCell (p := ⟨w.heap.size, 0, none⟩) (Nat.le_refl _) (.string ⟨#[]⟩)).setCell (p := ⟨w.heap.size, 1, none⟩) (Nat.le_refl _) (.string ⟨#[]⟩)).setCell (p := ⟨w.heap.size, 2, none⟩) (Nat.le_refl _) (.bool false)).setCell (p := ⟨w.heap.size, 3, none⟩) (Nat.le_refl _) (.string ⟨#[]⟩)).setCell (p := ⟨w.heap.size, 4, none⟩) (Nat.le_refl _) (.string ⟨#[]⟩)).setCell (p := ⟨w.heap.size, 5, none⟩) (Nat.le_refl _) (.string ⟨#[]⟩))
  generalize ((((((W.setCell ⟨w.heap.size, 0, none⟩ (.string ⟨#[]⟩)).setCell ⟨w.heap.size, 1, none⟩ (.string ⟨#[]⟩)).setCell ⟨w.heap.size, 2, none⟩ (.bool false)).setCell ⟨w.heap.size, 3, none⟩ (.string ⟨#[]⟩)).setCell ⟨w.heap.size, 4, none⟩ (.string ⟨#[]⟩)).setCell ⟨w.heap.size, 5, none⟩ (.string ⟨#[]⟩)) = V at hV hE ⊢
  have d0 := cellsOf_block hV (j := 0) rfl
  have d1 := cellsOf_block hV (j := 1) rfl
  have d2 := cellsOf_block hV (j := 2) rfl
  have d3 := cellsOf_block hV (j := 3) rfl
  have d4 := cellsOf_block hV (j := 4) rfl
  have d5 := cellsOf_block hV (j := 5) rfl
  refine bodyPost_ret (v := .tuple #[Ent.zero.v, .bool false]) (by simp [results, Tryd.results21, go_sem, d0, d1, d2, d3, d4, d5]; rfl) rfl ?_
  exact ⟨rfl, hE⟩
set_option maxHeartbeats 2000000 in
theorem param_any (h : TabAt w base tb T) (s : ByteArray) (hs : s.size ≤ maxLen) (hn : T.pars.length ≤ 1048576) : Calls Tryd.prog 23 #[.pointer (some ⟨tb, 0, none⟩), .string s] w (TellE T.pars s w) := by
  obtain ⟨W, hW, hsW, hBW, bx⟩ := boxWorld w #[.string ⟨#[]⟩, .string ⟨#[]⟩, .bool false, .string ⟨#[]⟩, .string ⟨#[]⟩, .string ⟨#[]⟩] 46
  have hT := h.below hBW
  have C := Lib.hid (getE_any T.p T.pars s hT.pars hs hn)
  have c0 := hT.cell.2.1
  have BX := Lib.hid bx
  have HBW := Lib.hid hBW
  clear h hT bx hBW hs hn
  go_enter Tryd.func23, Tryd.ntmps23
  go_upto_region 1 with (fail)
  clear hW
  go_wp2_with fail
  refine C.out.mono ?_
  rintro e w1 ⟨rfl, hB⟩
  have b1 := (hB.block w.heap.size (Array.getElem?_eq_some_iff.1 BX.out).1).trans BX.out
  have HB := Lib.hid (HBW.out.trans (hB.mono HBW.out.size))
  have B1 := Lib.hid b1
  have y0 := cellsOf_block b1 (j := 0) rfl
  have m0 := Lib.frozen_of_heap b1 0
  have y1 := cellsOf_block b1 (j := 1) rfl
  have m1 := Lib.frozen_of_heap b1 1
  have y2 := cellsOf_block b1 (j := 2) rfl
  have m2 := Lib.frozen_of_heap b1 2
  have y3 := cellsOf_block b1 (j := 3) rfl
  have m3 := Lib.frozen_of_heap b1 3
  have y4 := cellsOf_block b1 (j := 4) rfl
  have m4 := Lib.frozen_of_heap b1 4
  have y5 := cellsOf_block b1 (j := 5) rfl
  have m5 := Lib.frozen_of_heap b1 5
  clear hB C b1 c0
  generalize hE0 : findE T.pars s = E
  generalize hO0 : hasT (T.pars.map Ent.na) s = ok
  have HE := Lib.hid hE0
  have HO := Lib.hid hO0
  clear hE0 hO0
  obtain ⟨ea, eb, ec, ed, ee, ef⟩ := E
  dsimp only [Ent.v]
  go_wp2
  have hV : ((((((w1.setCell ⟨w.heap.size, 0, none⟩ (.string ea)).setCell ⟨w.heap.size, 1, none⟩ (.string eb)).setCell ⟨w.heap.size, 2, none⟩ (.bool ec)).setCell ⟨w.heap.size, 3, none⟩ (.string ed)).setCell ⟨w.heap.size, 4, none⟩ (.string ee)).setCell ⟨w.heap.size, 5, none⟩ (.string ef)).heap[w.heap.size]? = some (.cells #[.string ea, .string eb, .bool ec, .string ed, .string ee, .string ef] 46 (0, 0)) := by simpa using (Go.Joins.block_setCell (Go.Joins.block_setCell (Go.Joins.block_setCell (Go.Joins.block_setCell (Go.Joins.block_setCell (Go.Joins.block_setCell B1.out (.string ea) (i := 0)) (.string eb) (i := 1)) (.bool ec) (i := 2)) (.string ed) (i := 3)) (.string ee) (i := 4)) (.string ef) (i := 5))
  have hE : Below w.heap.size w ((((((w1.setCell ⟨w.heap.size, 0, none⟩ (.string ea)).setCell ⟨w.heap.size, 1, none⟩ (.string eb)).setCell ⟨w.heap.size, 2, none⟩ (.bool ec)).setCell ⟨w.heap.size, 3, none⟩ (.string ed)).setCell ⟨w.heap.size, 4, none⟩ (.string ee)).setCell ⟨w.heap.size, 5, none⟩ (.string ef)) := ((((((HB.out.setCell (p := ⟨w.heap.size, 0, none⟩) (Nat.le_refl _) (.string ea)).setCell (p := ⟨w.heap.size, 1, none⟩) (Nat.le_refl _) (.string eb)).setCell (p := ⟨w.heap.size, 2, none⟩) (Nat.le_refl _) (.bool ec)).setCell (p := ⟨w.heap.size, 3, none⟩) (Nat.le_refl _) (.string ed)).setCell (p := ⟨w.heap.size, 4, none⟩) (Nat.le_refl _) (.string ee)).setCell (p := ⟨w.heap.size, 5, none⟩) (Nat.le_refl _) (.string ef))
  generalize ((((((w1.setCell ⟨w.heap.size, 0, none⟩ (.string ea)).setCell ⟨w.heap.size, 1, none⟩ (.string eb)).setCell ⟨w.heap.size, 2, none⟩ (.bool ec)).setCell ⟨w.heap.size, 3, none⟩ (.string ed)).setCell ⟨w.heap.size, 4, none⟩ (.string ee)).setCell ⟨w.heap.size, 5, none⟩ (.string ef)) = V at hV hE ⊢
  have d0 := cellsOf_block hV (j := 0) rfl
  have d1 := cellsOf_block hV (j := 1) rfl
  have d2 := cellsOf_block hV (j := 2) rfl
  have d3 := cellsOf_block hV (j := 3) rfl
  have d4 := cellsOf_block hV (j := 4) rfl
  have d5 := cellsOf_block hV (j := 5) rfl
  refine bodyPost_ret (v := .tuple #[.agg #[.string ea, .string eb, .bool ec, .string ed, .string ee, .string ef], .bool ok]) (by simp [results, Tryd.results23, go_sem, d0, d1, d2, d3, d4, d5]) rfl ?_
  unfold TellE
  rw [HE.out, HO.out]
  exact ⟨rfl, hE⟩
def NoneParam (w : World) (e : Ending) (w' : World) : Prop := e = .returned (.tuple #[Ent.zero.v, .bool false]) ∧ Below w.heap.size w w'
theorem param_nil (s : ByteArray) (w : World) : Calls Tryd.prog 23 #[.pointer none, .string s] w (NoneParam w) := by
  obtain ⟨W, hW, hsW, hBW, bx⟩ := boxWorld w #[.string ⟨#[]⟩, .string ⟨#[]⟩, .bool false, .string ⟨#[]⟩, .string ⟨#[]⟩, .string ⟨#[]⟩] 46
  have B1 := Lib.hid bx
  have HB := Lib.hid hBW
  have y0 := cellsOf_block bx (j := 0) rfl
  have m0 := Lib.frozen_of_heap bx 0
  have y1 := cellsOf_block bx (j := 1) rfl
  have m1 := Lib.frozen_of_heap bx 1
  have y2 := cellsOf_block bx (j := 2) rfl
  have m2 := Lib.frozen_of_heap bx 2
  have y3 := cellsOf_block bx (j := 3) rfl
  have m3 := Lib.frozen_of_heap bx 3
  have y4 := cellsOf_block bx (j := 4) rfl
  have m4 := Lib.frozen_of_heap bx 4
  have y5 := cellsOf_block bx (j := 5) rfl
  have m5 := Lib.frozen_of_heap bx 5
  clear bx hBW
  go_enter Tryd.func23, Tryd.ntmps23
  go_upto_region 1 with (fail)
  clear hW
  go_wp2
  have hV : ((((((W.setCell ⟨w.heap.size, 0, none⟩ (.string ⟨#[]⟩)).setCell ⟨w.heap.size, 1, none⟩ (.string ⟨#[]⟩)).setCell ⟨w.heap.size, 2, none⟩ (.bool false)).setCell ⟨w.heap.size, 3, none⟩ (.string ⟨#[]⟩)).setCell ⟨w.heap.size, 4, none⟩ (.string ⟨#[]⟩)).setCell ⟨w.heap.size, 5, none⟩ (.string ⟨#[]⟩)).heap[w.heap.size]? = some (.cells #[.string ⟨#[]⟩, .string ⟨#[]⟩, .bool false, .string ⟨#[]⟩, .string ⟨#[]⟩, .string ⟨#[]⟩] 46 (0, 0)) := by simpa using (Go.Joins.block_setCell (Go.Joins.block_setCell (Go.Joins.block_setCell (Go.Joins.block_setCell (Go.Joins.block_setCell (Go.Joins.block_setCell B1.out (.string ⟨#[]⟩) (i := 0)) (.string ⟨#[]⟩) (i := 1)) (.bool false) (i := 2)) (.string ⟨#[]⟩) (i := 3)) (.string ⟨#[]⟩) (i := 4)) (.string ⟨#[]⟩) (i := 5))
  have hE : Below w.heap.size w ((((((W.setCell ⟨w.heap.size, 0, none⟩ (.string ⟨#[]⟩)).setCell ⟨w.heap.size, 1, none⟩ (.string ⟨#[]⟩)).setCell ⟨w.heap.size, 2, none⟩ (.bool false)).setCell ⟨w.heap.size, 3, none⟩ (.string ⟨#[]⟩)).setCell ⟨w.heap.size, 4, none⟩ (.string ⟨#[]⟩)).setCell ⟨w.heap.size, 5, none⟩ (.string ⟨#[]⟩)) := ((((((HB.out.setCell (p := ⟨w.heap.size, 0, none⟩) (Nat.le_refl _) (.string ⟨#[]⟩)).setCell (p := ⟨w.heap.size, 1, none⟩) (Nat.le_refl _) (.string ⟨#[]⟩)).setCell (p := ⟨w.heap.size, 2, none⟩) (Nat.le_refl _) (.bool false)).setCell (p := ⟨w.heap.size, 3, none⟩) (Nat.le_refl _) (.string ⟨#[]⟩)).setCell (p := ⟨w.heap.size, 4, none⟩) (Nat.le_refl _) (.string ⟨#[]⟩)).setCell (p := ⟨w.heap.size, 5, none⟩) (Nat.le_refl _) (.string ⟨#[]⟩))
  generalize ((((((W.setCell ⟨w.heap.size, 0, none⟩ (.string ⟨#[]⟩)).setCell ⟨w.heap.size, 1, none⟩ (.string ⟨#[]⟩)).setCell ⟨w.heap.size, 2, none⟩ (.bool false)).setCell ⟨w.heap.size, 3, none⟩ (.string ⟨#[]⟩)).setCell ⟨w.heap.size, 4, none⟩ (.string ⟨#[]⟩)).setCell ⟨w.heap.size, 5, none⟩ (.string ⟨#[]⟩)) = V at hV hE ⊢
  have d0 := cellsOf_block hV (j := 0) rfl
  have d1 := cellsOf_block hV (j := 1) rfl
  have d2 := cellsOf_block hV (j := 2) rfl
  have d3 := cellsOf_block hV (j := 3) rfl
  have d4 := cellsOf_block hV (j := 4) rfl
  have d5 := cellsOf_block hV (j := 5) rfl
  refine bodyPost_ret (v := .tuple #[Ent.zero.v, .bool false]) (by simp [results, Tryd.results23, go_sem, d0, d1, d2, d3, d4, d5]; rfl) rfl ?_
  exact ⟨rfl, hE⟩
end Go.Proofs.YtapjmfgpdkghlaaDoor
