/- dtd.copied: an attribute with words of its own. Conditions: at most 2^20 words. -/
import Derived.Test.YtapjmfgpdkghlaaDoorDtPut
import Derived.Maps.AppendAt
import Derived.Lib.SmallJoins
namespace Go.Proofs.YtapjmfgpdkghlaaDoor
open Go.RowKit Go.Maps
set_option linter.unusedVariables false
set_option linter.unusedSimpArgs false
theorem Tryd.infoStrF : (Tryd.prog.info? 9).map (fun i => (i.zero, i.size, i.bytes)) = some (some (.string ⟨#[]⟩), 1, 16) := by kernel_rfl
def TellRowD (l : List ByteArray) (w : World) (e : Ending) (w' : World) : Prop := ∃ A c, e = .returned (.slice A l.length c) ∧ w'.ownsRow w.heap.size 9 1 (.slice A l.length c) l.length (txtCells l) ∧ Below w.heap.size w w'
theorem eqStrsSome (a : Addr) (n c : Nat) (W : World) : (binOp .eql 28 (.slice (some a) n c) (.slice none 0 0)).run Tryd.prog W = .ok (.bool false) W := by kernel_rfl
theorem eqStrsNone (n c : Nat) (W : World) : (binOp .eql 28 (.slice none n c) (.slice none 0 0)).run Tryd.prog W = .ok (.bool true) W := by kernel_rfl
set_option maxRecDepth 100000 in
set_option maxHeartbeats 2000000 in
theorem cloneStrs_any (A : Option Addr) (n c : Nat) (l : List ByteArray) (w : World) (hl : TsAt w A n l) (hn : n ≤ 1048576) :
    Calls Tryd.prog 48 #[.slice A n c] w (TellRowD l w) := by
  obtain ⟨i0, hi0, hz0, hz1, hz2⟩ := info_partsD Tryd.infoStrF
  cases A with
  | none =>
    obtain rfl : n = 0 := by
      rcases Nat.eq_zero_or_pos n with h | h
      · exact h
      · obtain ⟨a, x, hA, _⟩ := hl.2 0 h; cases hA
    obtain rfl : l = [] := List.eq_nil_of_length_eq_zero hl.1
    clear hl
    have q0 := eqStrsNone 0 c
    go_enter Tryd.func48, Tryd.ntmps48
    go_wp2
    go_ret
    exact ⟨none, 0, rfl, World.ownsRow_nil _ _ _ _, Below.refl _ _⟩
  | some a =>
    have hlen := hl.1
    have hB : Below w.heap.size w (w.alloc (.cells #[] 9)) := (Below.refl _ w).alloc (Nat.le_refl _) _
    have HC2 : Hid (∀ (j : Nat) (u : Value), (txtCells l)[j]? = some u → (w.alloc (.cells #[] 9)).cell? (a.add j) = some u) := by
      intro j u hj
      unfold txtCells at hj
      rw [List.getElem?_map] at hj
      cases hx : l[j]? with
      | none => rw [hx] at hj; cases hj
      | some x =>
        rw [hx] at hj
        have hj : Value.string x = u := by simpa using hj
        subst hj
        obtain ⟨a', y, hA, hy, hb, h0⟩ := hl.2 j (by rw [← hlen]; exact (List.getElem?_eq_some_iff.1 hx).1)
        cases hA
        rw [hx] at hy
        cases hy
        exact (hB.cell (p := a.add j) (by rw [addBlockT]; exact hb)).trans h0
    have hO : (w.alloc (.cells #[] 9)).ownsRow w.heap.size 9 1 (.slice (some ⟨w.heap.size, 0, none⟩) 0 0) 0 [] := World.ownsRow_lit w #[] 0 (Nat.le_refl _) (by unfold maxLen; omega) rfl
    clear hl
    have q0 := eqStrsSome a n c
    go_enter Tryd.func48, Tryd.ntmps48
    go_wp2_with (at_builtin; refine wpList_append_own _ rfl (.tmp 5) (.tmp 6) 28 rfl w.heap.size 9 i0 (.string ⟨#[]⟩) 1 16 Tryd.underlying28 hi0 hz0 hz1 hz2 rfl (by decide) _ 0 [] rfl hO a n c (txtCells l) rfl (by unfold txtCells; rw [List.length_map, hlen]; omega) HC2.out (by intro u hu; unfold txtCells at hu; obtain ⟨x, _, rfl⟩ := List.mem_map.1 hu; rfl) (by unfold maxLen; omega) (by omega) (by simp) ?_)
    intro v' w2 hown' hgrow _
    have HB2 := hB.grown hgrow (by simp) (fun g hg => (hO.lt g hg).1)
    obtain ⟨A2, c2, rfl, _⟩ := own_shapeD hown'
    go_wp2
    go_ret
    subst hlen
    exact ⟨A2, c2, by simp, by simpa using hown', HB2⟩
def Df.v (d : Df) : Value := .agg #[.string d.p.na, .int .i64 d.p.ki, .slice d.A d.p.ws.length d.c, .int .i64 d.p.mo, .string d.p.va]
def CopTold (p : DfP) (w : World) (e : Ending) (w' : World) : Prop := ∃ d : Df, e = .returned d.v ∧ d.p = p ∧ WordsAt w' w.heap.size d ∧ Below w.heap.size w w'
set_option maxHeartbeats 4000000 in
theorem copied_any (d : Df) (w : World) (h : TsAt w d.A d.p.ws.length d.p.ws) (hn : d.p.ws.length ≤ 1048576) : Calls Tryd.prog 33 #[d.v] w (CopTold d.p w) := by
  obtain ⟨⟨na, ki, ws, mo, va⟩, A, c⟩ := d
  dsimp only at h hn
  obtain ⟨W, hW, hsW, hBW, bx⟩ := boxWorld w #[.string na, .int .i64 ki, .slice A ws.length c, .int .i64 mo, .string va] 82
  obtain ⟨W2, hW2, hsW2, hBW2, bx2⟩ := boxWorld W #[.string ⟨#[]⟩, .int .i64 0, .slice none 0 0, .int .i64 0, .string ⟨#[]⟩] 82
  have bx1 := (hBW2.block w.heap.size (by omega)).trans bx
  have C := Lib.hid (cloneStrs_any A ws.length c ws W2 ((h.below hBW).below hBW2) hn)
  have HB2 := Lib.hid (hBW.trans (hBW2.mono hBW.size))
  have x2 := cellsOf_block bx1 (j := 2) rfl
  have BX1 := Lib.hid bx1
  have BX2 := Lib.hid bx2
  have HS := Lib.hid hsW
  have HS2 := Lib.hid hsW2
  show Calls _ _ #[.agg #[.string na, .int .i64 ki, .slice A ws.length c, .int .i64 mo, .string va]] _ _
  clear h bx1 bx2 bx hBW hBW2 hsW hsW2
  go_enter Tryd.func33, Tryd.ntmps33
  go_upto_region 1 with (fail)
  clear hW hW2
  go_wp2_with fail
  refine C.out.mono ?_
  rintro e w3 ⟨A2, c2, rfl, hown, hB⟩
  have hlt1 : w.heap.size < W2.heap.size := by have := HS.out; have := HS2.out; omega
  have hlt2 : W.heap.size < W2.heap.size := by have := HS2.out; omega
  have b1 := (hB.block w.heap.size hlt1).trans BX1.out
  have b2 := (hB.block W.heap.size hlt2).trans BX2.out
  have m2 := Lib.frozen_of_heap b1 2
  have y2 := cellsOf_block b1 (j := 2) rfl
  have HO := Lib.hid (own_lowerD hown (Nat.le_trans (Nat.le_of_lt hlt1) (Nat.le_refl _)))
  have HB3 := Lib.hid (HB2.out.trans (hB.mono HB2.out.size))
  have B1 := Lib.hid b1
  have B2 := Lib.hid b2
  have HNE := Lib.hid (show W.heap.size ≠ w.heap.size by have := HS.out; omega)
  clear hown hB b1 b2 C BX1 BX2 x2
  go_upto_region 2 with (fail)
  have d1 : (w3.setCell ⟨w.heap.size, 2, none⟩ (.slice A2 ws.length c2)).heap[w.heap.size]? = some (.cells #[.string na, .int .i64 ki, .slice A2 ws.length c2, .int .i64 mo, .string va] 82 (0, 0)) := by simpa using Go.Joins.block_setCell B1.out (.slice A2 ws.length c2) (i := 2)
  have d2 : (w3.setCell ⟨w.heap.size, 2, none⟩ (.slice A2 ws.length c2)).heap[W.heap.size]? = some (.cells #[.string ⟨#[]⟩, .int .i64 0, .slice none 0 0, .int .i64 0, .string ⟨#[]⟩] 82 (0, 0)) := (Below.heap_setCell _ _ _ _ HNE.out).trans B2.out
  have HO4 : Hid ((w3.setCell ⟨w.heap.size, 2, none⟩ (.slice A2 ws.length c2)).ownsRow w.heap.size 9 1 (.slice A2 ws.length c2) ws.length (txtCells ws)) := by
    refine ownsRow_setCell_other HO.out (fun e => ?_) _
    obtain ⟨_, _, cs, hh⟩ := own_blk HO.out e
    rw [B1.out] at hh
    injection hh with hh
    injection hh with _ hh _
    exact absurd hh (by decide)
  have HB4 := Lib.hid (HB3.out.setCell (p := ⟨w.heap.size, 2, none⟩) (Nat.le_refl _) (.slice A2 ws.length c2))
  clear m2 y2 HO HB3 B1 B2
  generalize w3.setCell ⟨w.heap.size, 2, none⟩ (.slice A2 ws.length c2) = W4 at *
  have x0 := cellsOf_block d1 (j := 0) rfl
  have x1 := cellsOf_block d1 (j := 1) rfl
  have x2 := cellsOf_block d1 (j := 2) rfl
  have x3 := cellsOf_block d1 (j := 3) rfl
  have x4 := cellsOf_block d1 (j := 4) rfl
  have z0 := cellsOf_block d2 (j := 0) rfl
  have z1 := cellsOf_block d2 (j := 1) rfl
  have z2 := cellsOf_block d2 (j := 2) rfl
  have z3 := cellsOf_block d2 (j := 3) rfl
  have z4 := cellsOf_block d2 (j := 4) rfl
  have m0 := Lib.frozen_of_heap d2 0
  have m1 := Lib.frozen_of_heap d2 1
  have m2 := Lib.frozen_of_heap d2 2
  have m3 := Lib.frozen_of_heap d2 3
  have m4 := Lib.frozen_of_heap d2 4
  have D2 := Lib.hid d2
  clear d1 d2
  go_wp2
  have hge : w.heap.size ≤ W.heap.size := by have := HS.out; omega
  have hV : (((((W4.setCell ⟨W.heap.size, 0, none⟩ (.string na)).setCell ⟨W.heap.size, 1, none⟩ (.int .i64 ki)).setCell ⟨W.heap.size, 2, none⟩ (.slice A2 ws.length c2)).setCell ⟨W.heap.size, 3, none⟩ (.int .i64 mo)).setCell ⟨W.heap.size, 4, none⟩ (.string va)).heap[W.heap.size]? = some (.cells #[.string na, .int .i64 ki, .slice A2 ws.length c2, .int .i64 mo, .string va] 82 (0, 0)) := by simpa using (Go.Joins.block_setCell (Go.Joins.block_setCell (Go.Joins.block_setCell (Go.Joins.block_setCell (Go.Joins.block_setCell D2.out (.string na) (i := 0)) (.int .i64 ki) (i := 1)) (.slice A2 ws.length c2) (i := 2)) (.int .i64 mo) (i := 3)) (.string va) (i := 4))
  have hE : Below w.heap.size w (((((W4.setCell ⟨W.heap.size, 0, none⟩ (.string na)).setCell ⟨W.heap.size, 1, none⟩ (.int .i64 ki)).setCell ⟨W.heap.size, 2, none⟩ (.slice A2 ws.length c2)).setCell ⟨W.heap.size, 3, none⟩ (.int .i64 mo)).setCell ⟨W.heap.size, 4, none⟩ (.string va)) := (((((HB4.out.setCell (p := ⟨W.heap.size, 0, none⟩) hge (.string na)).setCell (p := ⟨W.heap.size, 1, none⟩) hge (.int .i64 ki)).setCell (p := ⟨W.heap.size, 2, none⟩) hge (.slice A2 ws.length c2)).setCell (p := ⟨W.heap.size, 3, none⟩) hge (.int .i64 mo)).setCell (p := ⟨W.heap.size, 4, none⟩) hge (.string va))
  have hK : ∀ k, k ≠ W.heap.size → (((((W4.setCell ⟨W.heap.size, 0, none⟩ (.string na)).setCell ⟨W.heap.size, 1, none⟩ (.int .i64 ki)).setCell ⟨W.heap.size, 2, none⟩ (.slice A2 ws.length c2)).setCell ⟨W.heap.size, 3, none⟩ (.int .i64 mo)).setCell ⟨W.heap.size, 4, none⟩ (.string va)).heap[k]? = W4.heap[k]? := fun k hk => (Below.heap_setCell (((((W4.setCell ⟨W.heap.size, 0, none⟩ (.string na)).setCell ⟨W.heap.size, 1, none⟩ (.int .i64 ki)).setCell ⟨W.heap.size, 2, none⟩ (.slice A2 ws.length c2)).setCell ⟨W.heap.size, 3, none⟩ (.int .i64 mo))) ⟨W.heap.size, 4, none⟩ (.string va) k hk).trans ((Below.heap_setCell ((((W4.setCell ⟨W.heap.size, 0, none⟩ (.string na)).setCell ⟨W.heap.size, 1, none⟩ (.int .i64 ki)).setCell ⟨W.heap.size, 2, none⟩ (.slice A2 ws.length c2))) ⟨W.heap.size, 3, none⟩ (.int .i64 mo) k hk).trans ((Below.heap_setCell (((W4.setCell ⟨W.heap.size, 0, none⟩ (.string na)).setCell ⟨W.heap.size, 1, none⟩ (.int .i64 ki))) ⟨W.heap.size, 2, none⟩ (.slice A2 ws.length c2) k hk).trans ((Below.heap_setCell ((W4.setCell ⟨W.heap.size, 0, none⟩ (.string na))) ⟨W.heap.size, 1, none⟩ (.int .i64 ki) k hk).trans (Below.heap_setCell W4 ⟨W.heap.size, 0, none⟩ (.string na) k hk))))
  have D2 := D2.out
  have hO := HO4.out
  clear HB4 HO4 m0 m1 m2 m3 m4 x0 x1 x2 x3 x4 z0 z1 z2 z3 z4
  generalize (((((W4.setCell ⟨W.heap.size, 0, none⟩ (.string na)).setCell ⟨W.heap.size, 1, none⟩ (.int .i64 ki)).setCell ⟨W.heap.size, 2, none⟩ (.slice A2 ws.length c2)).setCell ⟨W.heap.size, 3, none⟩ (.int .i64 mo)).setCell ⟨W.heap.size, 4, none⟩ (.string va)) = V at hV hE hK ⊢
  have d0 := cellsOf_block hV (j := 0) rfl
  have d1 := cellsOf_block hV (j := 1) rfl
  have d2 := cellsOf_block hV (j := 2) rfl
  have d3 := cellsOf_block hV (j := 3) rfl
  have d4 := cellsOf_block hV (j := 4) rfl
  refine bodyPost_ret (v := .agg #[.string na, .int .i64 ki, .slice A2 ws.length c2, .int .i64 mo, .string va]) (by simp [results, Tryd.results33, go_sem, d0, d1, d2, d3, d4]) rfl ?_
  refine ⟨⟨⟨na, ki, ws, mo, va⟩, A2, c2⟩, rfl, rfl, own_same hO (fun k hk => hK k (fun e => ?_)), hE⟩
  subst e
  obtain ⟨_, _, cs, hh⟩ := own_blk hO hk
  rw [D2] at hh
  injection hh with hh
  injection hh with _ hh _
  exact absurd hh (by decide)
end Go.Proofs.YtapjmfgpdkghlaaDoor
