/- dtd's rows: get, at entities, identifiers, elements (printed by gen-dtget.py). Conditions: names within the reach. -/
import Derived.Test.YtapjmfgpdkghlaaDoorDtAdd
import Derived.Lib.SmallJoins
namespace Go.Proofs.YtapjmfgpdkghlaaDoor
open Go.RowKit Go.Maps
set_option linter.unusedVariables false
set_option linter.unusedSimpArgs false
theorem row_base {w : World} {base : Nat} {e : TypeId} {sz n c : Nat} {A : Option Addr} {xs : List Value} (h : w.ownsRow base e sz (.slice A n c) n xs) (hn : 0 < n) : ∃ g, A = some ⟨g, 0, none⟩ := by
  rcases h.2 with ⟨hv, h0⟩ | ⟨g, cap, cur, hv, _⟩
  · omega
  · injection hv with hv _ _
    exact ⟨g, hv⟩
theorem miss_El (base : Nat) (R : Rm) (ns : List ByteArray) (xs : List Value) (s : ByteArray) (w : World) (h : RowAt w base 66 74 2 R ns xs) (hs : s.size ≤ maxLen) (hh : hasT ns s = false) :
    Calls Tryd.prog 32 #[.pointer (some ⟨R.rb, 0, none⟩), .string s] w (fun e w' => e = .returned (.tuple #[.agg #[.string ⟨#[]⟩, .pointer none], .bool false]) ∧ Below w.heap.size w w') := by
  obtain ⟨W, hW, hsW, hBW, bx⟩ := boxWorld w #[.string ⟨#[]⟩, .pointer none] 74
  have hW1 := h.below hBW
  have c0 := hW1.blk.cell0
  have hlk := key_look hW1.map hW1.key s hs
  rw [hh] at hlk
  have HB := Lib.hid hBW
  have x0 := cellsOf_block bx (j := 0) rfl
  have m0 := Lib.frozen_of_heap bx 0
  have x1 := cellsOf_block bx (j := 1) rfl
  have m1 := Lib.frozen_of_heap bx 1
  have BX := Lib.hid bx
  have HBb := Lib.hid hBW
  clear h hBW bx hW1 hsW hh
  go_enter Tryd.func32, Tryd.ntmps32
  go_upto_region 1 with (fail)
  clear hW
  go_wp2
  have hV : ((W.setCell ⟨w.heap.size, 0, none⟩ (.string ⟨#[]⟩)).setCell ⟨w.heap.size, 1, none⟩ (.pointer none)).heap[w.heap.size]? = some (.cells #[.string ⟨#[]⟩, .pointer none] 74 (0, 0)) := by simpa using (Go.Joins.block_setCell (Go.Joins.block_setCell BX.out (.string ⟨#[]⟩) (i := 0)) (.pointer none) (i := 1))
  have hE : Below w.heap.size w ((W.setCell ⟨w.heap.size, 0, none⟩ (.string ⟨#[]⟩)).setCell ⟨w.heap.size, 1, none⟩ (.pointer none)) := ((HBb.out.setCell (p := ⟨w.heap.size, 0, none⟩) (Nat.le_refl _) (.string ⟨#[]⟩)).setCell (p := ⟨w.heap.size, 1, none⟩) (Nat.le_refl _) (.pointer none))
  generalize ((W.setCell ⟨w.heap.size, 0, none⟩ (.string ⟨#[]⟩)).setCell ⟨w.heap.size, 1, none⟩ (.pointer none)) = V at hV hE ⊢
  have d0 := cellsOf_block hV (j := 0) rfl
  have d1 := cellsOf_block hV (j := 1) rfl
  refine bodyPost_ret (v := .tuple #[.agg #[.string ⟨#[]⟩, .pointer none], .bool false]) (by simp [results, Tryd.results32, go_sem, d0, d1]) rfl ?_
  exact ⟨rfl, hE⟩
set_option maxRecDepth 100000 in
set_option maxHeartbeats 4000000 in
theorem getEl_any (base : Nat) (R : Rm) (ns : List ByteArray) (xs : List Value) (s : ByteArray) (q : ByteArray) (p : Option Addr) (w : World) (h : RowAt w base 66 74 2 R ns xs) (hs : s.size ≤ maxLen) (hl : ns.length ≤ 1048576) (hh : hasT ns s = true) (hx : ∀ j u, [.string q, .pointer p][j]? = some u → xs[idxT ns s * 2 + j]? = some u) :
    Calls Tryd.prog 32 #[.pointer (some ⟨R.rb, 0, none⟩), .string s] w (fun e w' => e = .returned (.tuple #[.agg #[.string q, .pointer p], .bool true]) ∧ Below w.heap.size w w') := by
  obtain ⟨W, hW, hsW, hBW, bx⟩ := boxWorld w #[.string ⟨#[]⟩, .pointer none] 74
  have hW1 := h.below hBW
  have c0 := hW1.blk.cell0
  have c1 := hW1.blk.cell1
  have hlk := key_look hW1.map hW1.key s hs
  rw [hh] at hlk
  have hlt := idxT_lt hh
  obtain ⟨g, hA⟩ := row_base hW1.row (by omega)
  have hr := hW1.row
  rw [hA] at c1 hr
  have hc : ∀ j u, [.string q, .pointer p][j]? = some u → W.cell? ⟨g, idxT ns s * 2 + j, none⟩ = some u := fun j u hj => by
    rw [hr.cellAt _ (by have h1 := (List.getElem?_eq_some_iff.1 (hx j u hj)).1; have h2 := hr.1; omega)]; exact hx j u hj
  have g0 : W.cell? ⟨g, idxT ns s * 2, none⟩ = some (.string q) := hc 0 _ rfl
  have g1 : W.cell? ⟨g, idxT ns s * 2 + 1, none⟩ = some (.pointer p) := hc 1 _ rfl
  have x0 := cellsOf_block bx (j := 0) rfl
  have m0 := Lib.frozen_of_heap bx 0
  have x1 := cellsOf_block bx (j := 1) rfl
  have m1 := Lib.frozen_of_heap bx 1
  have HB := Lib.hid hBW
  generalize idxT ns s = i at *
  have b0 : (0 : Int) ≤ (i : Int) := by omega
  have b1 : (i : Int) < (ns.length : Int) := by omega
  have BX := Lib.hid bx
  have HBb := Lib.hid hBW
  clear h hBW bx hW1 hsW hh hlt hA hr hc hx
  go_enter Tryd.func32, Tryd.ntmps32
  go_upto_region 1 with (fail)
  clear hW
  go_wp2
  have hV : ((W.setCell ⟨w.heap.size, 0, none⟩ (.string q)).setCell ⟨w.heap.size, 1, none⟩ (.pointer p)).heap[w.heap.size]? = some (.cells #[.string q, .pointer p] 74 (0, 0)) := by simpa using (Go.Joins.block_setCell (Go.Joins.block_setCell BX.out (.string q) (i := 0)) (.pointer p) (i := 1))
  have hE : Below w.heap.size w ((W.setCell ⟨w.heap.size, 0, none⟩ (.string q)).setCell ⟨w.heap.size, 1, none⟩ (.pointer p)) := ((HBb.out.setCell (p := ⟨w.heap.size, 0, none⟩) (Nat.le_refl _) (.string q)).setCell (p := ⟨w.heap.size, 1, none⟩) (Nat.le_refl _) (.pointer p))
  generalize ((W.setCell ⟨w.heap.size, 0, none⟩ (.string q)).setCell ⟨w.heap.size, 1, none⟩ (.pointer p)) = V at hV hE ⊢
  have d0 := cellsOf_block hV (j := 0) rfl
  have d1 := cellsOf_block hV (j := 1) rfl
  refine bodyPost_ret (v := .tuple #[.agg #[.string q, .pointer p], .bool true]) (by simp [results, Tryd.results32, go_sem, d0, d1]) rfl ?_
  exact ⟨rfl, hE⟩
theorem miss_Ex (base : Nat) (R : Rm) (ns : List ByteArray) (xs : List Value) (s : ByteArray) (w : World) (h : RowAt w base 91 44 2 R ns xs) (hs : s.size ≤ maxLen) (hh : hasT ns s = false) :
    Calls Tryd.prog 38 #[.pointer (some ⟨R.rb, 0, none⟩), .string s] w (fun e w' => e = .returned (.tuple #[.agg #[.string ⟨#[]⟩, .string ⟨#[]⟩], .bool false]) ∧ Below w.heap.size w w') := by
  obtain ⟨W, hW, hsW, hBW, bx⟩ := boxWorld w #[.string ⟨#[]⟩, .string ⟨#[]⟩] 44
  have hW1 := h.below hBW
  have c0 := hW1.blk.cell0
  have hlk := key_look hW1.map hW1.key s hs
  rw [hh] at hlk
  have HB := Lib.hid hBW
  have x0 := cellsOf_block bx (j := 0) rfl
  have m0 := Lib.frozen_of_heap bx 0
  have x1 := cellsOf_block bx (j := 1) rfl
  have m1 := Lib.frozen_of_heap bx 1
  have BX := Lib.hid bx
  have HBb := Lib.hid hBW
  clear h hBW bx hW1 hsW hh
  go_enter Tryd.func38, Tryd.ntmps38
  go_upto_region 1 with (fail)
  clear hW
  go_wp2
  have hV : ((W.setCell ⟨w.heap.size, 0, none⟩ (.string ⟨#[]⟩)).setCell ⟨w.heap.size, 1, none⟩ (.string ⟨#[]⟩)).heap[w.heap.size]? = some (.cells #[.string ⟨#[]⟩, .string ⟨#[]⟩] 44 (0, 0)) := by simpa using (Go.Joins.block_setCell (Go.Joins.block_setCell BX.out (.string ⟨#[]⟩) (i := 0)) (.string ⟨#[]⟩) (i := 1))
  have hE : Below w.heap.size w ((W.setCell ⟨w.heap.size, 0, none⟩ (.string ⟨#[]⟩)).setCell ⟨w.heap.size, 1, none⟩ (.string ⟨#[]⟩)) := ((HBb.out.setCell (p := ⟨w.heap.size, 0, none⟩) (Nat.le_refl _) (.string ⟨#[]⟩)).setCell (p := ⟨w.heap.size, 1, none⟩) (Nat.le_refl _) (.string ⟨#[]⟩))
  generalize ((W.setCell ⟨w.heap.size, 0, none⟩ (.string ⟨#[]⟩)).setCell ⟨w.heap.size, 1, none⟩ (.string ⟨#[]⟩)) = V at hV hE ⊢
  have d0 := cellsOf_block hV (j := 0) rfl
  have d1 := cellsOf_block hV (j := 1) rfl
  refine bodyPost_ret (v := .tuple #[.agg #[.string ⟨#[]⟩, .string ⟨#[]⟩], .bool false]) (by simp [results, Tryd.results38, go_sem, d0, d1]) rfl ?_
  exact ⟨rfl, hE⟩
set_option maxRecDepth 100000 in
set_option maxHeartbeats 4000000 in
theorem getEx_any (base : Nat) (R : Rm) (ns : List ByteArray) (xs : List Value) (s : ByteArray) (p q : ByteArray) (w : World) (h : RowAt w base 91 44 2 R ns xs) (hs : s.size ≤ maxLen) (hl : ns.length ≤ 1048576) (hh : hasT ns s = true) (hx : ∀ j u, [.string p, .string q][j]? = some u → xs[idxT ns s * 2 + j]? = some u) :
    Calls Tryd.prog 38 #[.pointer (some ⟨R.rb, 0, none⟩), .string s] w (fun e w' => e = .returned (.tuple #[.agg #[.string p, .string q], .bool true]) ∧ Below w.heap.size w w') := by
  obtain ⟨W, hW, hsW, hBW, bx⟩ := boxWorld w #[.string ⟨#[]⟩, .string ⟨#[]⟩] 44
  have hW1 := h.below hBW
  have c0 := hW1.blk.cell0
  have c1 := hW1.blk.cell1
  have hlk := key_look hW1.map hW1.key s hs
  rw [hh] at hlk
  have hlt := idxT_lt hh
  obtain ⟨g, hA⟩ := row_base hW1.row (by omega)
  have hr := hW1.row
  rw [hA] at c1 hr
  have hc : ∀ j u, [.string p, .string q][j]? = some u → W.cell? ⟨g, idxT ns s * 2 + j, none⟩ = some u := fun j u hj => by
    rw [hr.cellAt _ (by have h1 := (List.getElem?_eq_some_iff.1 (hx j u hj)).1; have h2 := hr.1; omega)]; exact hx j u hj
  have g0 : W.cell? ⟨g, idxT ns s * 2, none⟩ = some (.string p) := hc 0 _ rfl
  have g1 : W.cell? ⟨g, idxT ns s * 2 + 1, none⟩ = some (.string q) := hc 1 _ rfl
  have x0 := cellsOf_block bx (j := 0) rfl
  have m0 := Lib.frozen_of_heap bx 0
  have x1 := cellsOf_block bx (j := 1) rfl
  have m1 := Lib.frozen_of_heap bx 1
  have HB := Lib.hid hBW
  generalize idxT ns s = i at *
  have b0 : (0 : Int) ≤ (i : Int) := by omega
  have b1 : (i : Int) < (ns.length : Int) := by omega
  have BX := Lib.hid bx
  have HBb := Lib.hid hBW
  clear h hBW bx hW1 hsW hh hlt hA hr hc hx
  go_enter Tryd.func38, Tryd.ntmps38
  go_upto_region 1 with (fail)
  clear hW
  go_wp2
  have hV : ((W.setCell ⟨w.heap.size, 0, none⟩ (.string p)).setCell ⟨w.heap.size, 1, none⟩ (.string q)).heap[w.heap.size]? = some (.cells #[.string p, .string q] 44 (0, 0)) := by simpa using (Go.Joins.block_setCell (Go.Joins.block_setCell BX.out (.string p) (i := 0)) (.string q) (i := 1))
  have hE : Below w.heap.size w ((W.setCell ⟨w.heap.size, 0, none⟩ (.string p)).setCell ⟨w.heap.size, 1, none⟩ (.string q)) := ((HBb.out.setCell (p := ⟨w.heap.size, 0, none⟩) (Nat.le_refl _) (.string p)).setCell (p := ⟨w.heap.size, 1, none⟩) (Nat.le_refl _) (.string q))
  generalize ((W.setCell ⟨w.heap.size, 0, none⟩ (.string p)).setCell ⟨w.heap.size, 1, none⟩ (.string q)) = V at hV hE ⊢
  have d0 := cellsOf_block hV (j := 0) rfl
  have d1 := cellsOf_block hV (j := 1) rfl
  refine bodyPost_ret (v := .tuple #[.agg #[.string p, .string q], .bool true]) (by simp [results, Tryd.results38, go_sem, d0, d1]) rfl ?_
  exact ⟨rfl, hE⟩
theorem miss_En (base : Nat) (R : Rm) (ns : List ByteArray) (xs : List Value) (s : ByteArray) (w : World) (h : RowAt w base 87 46 6 R ns xs) (hs : s.size ≤ maxLen) (hh : hasT ns s = false) :
    Calls Tryd.prog 37 #[.pointer (some ⟨R.rb, 0, none⟩), .string s] w (fun e w' => e = .returned (.tuple #[.agg #[.string ⟨#[]⟩, .string ⟨#[]⟩, .bool false, .string ⟨#[]⟩, .string ⟨#[]⟩, .string ⟨#[]⟩], .bool false]) ∧ Below w.heap.size w w') := by
  obtain ⟨W, hW, hsW, hBW, bx⟩ := boxWorld w #[.string ⟨#[]⟩, .string ⟨#[]⟩, .bool false, .string ⟨#[]⟩, .string ⟨#[]⟩, .string ⟨#[]⟩] 46
  have hW1 := h.below hBW
  have c0 := hW1.blk.cell0
  have hlk := key_look hW1.map hW1.key s hs
  rw [hh] at hlk
  have HB := Lib.hid hBW
  have x0 := cellsOf_block bx (j := 0) rfl
  have m0 := Lib.frozen_of_heap bx 0
  have x1 := cellsOf_block bx (j := 1) rfl
  have m1 := Lib.frozen_of_heap bx 1
  have x2 := cellsOf_block bx (j := 2) rfl
  have m2 := Lib.frozen_of_heap bx 2
  have x3 := cellsOf_block bx (j := 3) rfl
  have m3 := Lib.frozen_of_heap bx 3
  have x4 := cellsOf_block bx (j := 4) rfl
  have m4 := Lib.frozen_of_heap bx 4
  have x5 := cellsOf_block bx (j := 5) rfl
  have m5 := Lib.frozen_of_heap bx 5
  have BX := Lib.hid bx
  have HBb := Lib.hid hBW
  clear h hBW bx hW1 hsW hh
  go_enter Tryd.func37, Tryd.ntmps37
  go_upto_region 1 with (fail)
  clear hW
  go_wp2
  have hV : ((((((W.setCell ⟨w.heap.size, 0, none⟩ (.string ⟨#[]⟩)).setCell ⟨w.heap.size, 1, none⟩ (.string ⟨#[]⟩)).setCell ⟨w.heap.size, 2, none⟩ (.bool false)).setCell ⟨w.heap.size, 3, none⟩ (.string ⟨#[]⟩)).setCell ⟨w.heap.size, 4, none⟩ (.string ⟨#[]⟩)).setCell ⟨w.heap.size, 5, none⟩ (.string ⟨#[]⟩)).heap[w.heap.size]? = some (.cells #[.string ⟨#[]⟩, .string ⟨#[]⟩, .bool false, .string ⟨#[]⟩, .string ⟨#[]⟩, .string ⟨#[]⟩] 46 (0, 0)) := by simpa using (Go.Joins.block_setCell (Go.Joins.block_setCell (Go.Joins.block_setCell (Go.Joins.block_setCell (Go.Joins.block_setCell (Go.Joins.block_setCell BX.out (.string ⟨#[]⟩) (i := 0)) (.string ⟨#[]⟩) (i := 1)) (.bool false) (i := 2)) (.string ⟨#[]⟩) (i := 3)) (.string ⟨#[]⟩) (i := 4)) (.string ⟨#[]⟩) (i := 5))
  have hE : Below w.heap.size w ((((((W.setCell ⟨w.heap.size, 0, none⟩ (.string ⟨#[]⟩)).setCell ⟨w.heap.size, 1, none⟩ (.string ⟨#[]⟩)).setCell ⟨w.heap.size, 2, none⟩ (.bool false)).setCell ⟨w.heap.size, 3, none⟩ (.string ⟨#[]⟩)).setCell ⟨w.heap.size, 4, none⟩ (.string ⟨#[]⟩)).setCell ⟨w.heap.size, 5, none⟩ (.string ⟨#[]⟩)) := ((((((HBb.out.setCell (p := ⟨w.heap.size, 0, none⟩) (Nat.le_refl _) (.string ⟨#[]⟩)).setCell (p := ⟨w.heap.size, 1, none⟩) (Nat.le_refl _) (.string ⟨#[]⟩)).setCell (p := ⟨w.heap.size, 2, none⟩) (Nat.le_refl _) (.bool false)).setCell (p := ⟨w.heap.size, 3, none⟩) (Nat.le_refl _) (.string ⟨#[]⟩)).setCell (p := ⟨w.heap.size, 4, none⟩) (Nat.le_refl _) (.string ⟨#[]⟩)).setCell (p := ⟨w.heap.size, 5, none⟩) (Nat.le_refl _) (.string ⟨#[]⟩))
  generalize ((((((W.setCell ⟨w.heap.size, 0, none⟩ (.string ⟨#[]⟩)).setCell ⟨w.heap.size, 1, none⟩ (.string ⟨#[]⟩)).setCell ⟨w.heap.size, 2, none⟩ (.bool false)).setCell ⟨w.heap.size, 3, none⟩ (.string ⟨#[]⟩)).setCell ⟨w.heap.size, 4, none⟩ (.string ⟨#[]⟩)).setCell ⟨w.heap.size, 5, none⟩ (.string ⟨#[]⟩)) = V at hV hE ⊢
  have d0 := cellsOf_block hV (j := 0) rfl
  have d1 := cellsOf_block hV (j := 1) rfl
  have d2 := cellsOf_block hV (j := 2) rfl
  have d3 := cellsOf_block hV (j := 3) rfl
  have d4 := cellsOf_block hV (j := 4) rfl
  have d5 := cellsOf_block hV (j := 5) rfl
  refine bodyPost_ret (v := .tuple #[.agg #[.string ⟨#[]⟩, .string ⟨#[]⟩, .bool false, .string ⟨#[]⟩, .string ⟨#[]⟩, .string ⟨#[]⟩], .bool false]) (by simp [results, Tryd.results37, go_sem, d0, d1, d2, d3, d4, d5]) rfl ?_
  exact ⟨rfl, hE⟩
set_option maxRecDepth 100000 in
set_option maxHeartbeats 4000000 in
theorem getEn_any (base : Nat) (R : Rm) (ns : List ByteArray) (xs : List Value) (s : ByteArray) (x : Ent) (w : World) (h : RowAt w base 87 46 6 R ns xs) (hs : s.size ≤ maxLen) (hl : ns.length ≤ 1048576) (hh : hasT ns s = true) (hx : ∀ j u, [.string x.na, .string x.tx, .bool x.out, .string x.pu, .string x.sy, .string x.no][j]? = some u → xs[idxT ns s * 6 + j]? = some u) :
    Calls Tryd.prog 37 #[.pointer (some ⟨R.rb, 0, none⟩), .string s] w (fun e w' => e = .returned (.tuple #[.agg #[.string x.na, .string x.tx, .bool x.out, .string x.pu, .string x.sy, .string x.no], .bool true]) ∧ Below w.heap.size w w') := by
  obtain ⟨W, hW, hsW, hBW, bx⟩ := boxWorld w #[.string ⟨#[]⟩, .string ⟨#[]⟩, .bool false, .string ⟨#[]⟩, .string ⟨#[]⟩, .string ⟨#[]⟩] 46
  have hW1 := h.below hBW
  have c0 := hW1.blk.cell0
  have c1 := hW1.blk.cell1
  have hlk := key_look hW1.map hW1.key s hs
  rw [hh] at hlk
  have hlt := idxT_lt hh
  obtain ⟨g, hA⟩ := row_base hW1.row (by omega)
  have hr := hW1.row
  rw [hA] at c1 hr
  have hc : ∀ j u, [.string x.na, .string x.tx, .bool x.out, .string x.pu, .string x.sy, .string x.no][j]? = some u → W.cell? ⟨g, idxT ns s * 6 + j, none⟩ = some u := fun j u hj => by
    rw [hr.cellAt _ (by have h1 := (List.getElem?_eq_some_iff.1 (hx j u hj)).1; have h2 := hr.1; omega)]; exact hx j u hj
  have g0 : W.cell? ⟨g, idxT ns s * 6, none⟩ = some (.string x.na) := hc 0 _ rfl
  have g1 : W.cell? ⟨g, idxT ns s * 6 + 1, none⟩ = some (.string x.tx) := hc 1 _ rfl
  have g2 : W.cell? ⟨g, idxT ns s * 6 + 2, none⟩ = some (.bool x.out) := hc 2 _ rfl
  have g3 : W.cell? ⟨g, idxT ns s * 6 + 3, none⟩ = some (.string x.pu) := hc 3 _ rfl
  have g4 : W.cell? ⟨g, idxT ns s * 6 + 4, none⟩ = some (.string x.sy) := hc 4 _ rfl
  have g5 : W.cell? ⟨g, idxT ns s * 6 + 5, none⟩ = some (.string x.no) := hc 5 _ rfl
  have x0 := cellsOf_block bx (j := 0) rfl
  have m0 := Lib.frozen_of_heap bx 0
  have x1 := cellsOf_block bx (j := 1) rfl
  have m1 := Lib.frozen_of_heap bx 1
  have x2 := cellsOf_block bx (j := 2) rfl
  have m2 := Lib.frozen_of_heap bx 2
  have x3 := cellsOf_block bx (j := 3) rfl
  have m3 := Lib.frozen_of_heap bx 3
  have x4 := cellsOf_block bx (j := 4) rfl
  have m4 := Lib.frozen_of_heap bx 4
  have x5 := cellsOf_block bx (j := 5) rfl
  have m5 := Lib.frozen_of_heap bx 5
  have HB := Lib.hid hBW
  generalize idxT ns s = i at *
  have b0 : (0 : Int) ≤ (i : Int) := by omega
  have b1 : (i : Int) < (ns.length : Int) := by omega
  have BX := Lib.hid bx
  have HBb := Lib.hid hBW
  clear h hBW bx hW1 hsW hh hlt hA hr hc hx
  go_enter Tryd.func37, Tryd.ntmps37
  go_upto_region 1 with (fail)
  clear hW
  go_wp2
  have hV : ((((((W.setCell ⟨w.heap.size, 0, none⟩ (.string x.na)).setCell ⟨w.heap.size, 1, none⟩ (.string x.tx)).setCell ⟨w.heap.size, 2, none⟩ (.bool x.out)).setCell ⟨w.heap.size, 3, none⟩ (.string x.pu)).setCell ⟨w.heap.size, 4, none⟩ (.string x.sy)).setCell ⟨w.heap.size, 5, none⟩ (.string x.no)).heap[w.heap.size]? = some (.cells #[.string x.na, .string x.tx, .bool x.out, .string x.pu, .string x.sy, .string x.no] 46 (0, 0)) := by simpa using (Go.Joins.block_setCell (Go.Joins.block_setCell (Go.Joins.block_setCell (Go.Joins.block_setCell (Go.Joins.block_setCell (Go.Joins.block_setCell BX.out (.string x.na) (i := 0)) (.string x.tx) (i := 1)) (.bool x.out) (i := 2)) (.string x.pu) (i := 3)) (.string x.sy) (i := 4)) (.string x.no) (i := 5))
  have hE : Below w.heap.size w ((((((W.setCell ⟨w.heap.size, 0, none⟩ (.string x.na)).setCell ⟨w.heap.size, 1, none⟩ (.string x.tx)).setCell ⟨w.heap.size, 2, none⟩ (.bool x.out)).setCell ⟨w.heap.size, 3, none⟩ (.string x.pu)).setCell ⟨w.heap.size, 4, none⟩ (.string x.sy)).setCell ⟨w.heap.size, 5, none⟩ (.string x.no)) := ((((((HBb.out.setCell (p := ⟨w.heap.size, 0, none⟩) (Nat.le_refl _) (.string x.na)).setCell (p := ⟨w.heap.size, 1, none⟩) (Nat.le_refl _) (.string x.tx)).setCell (p := ⟨w.heap.size, 2, none⟩) (Nat.le_refl _) (.bool x.out)).setCell (p := ⟨w.heap.size, 3, none⟩) (Nat.le_refl _) (.string x.pu)).setCell (p := ⟨w.heap.size, 4, none⟩) (Nat.le_refl _) (.string x.sy)).setCell (p := ⟨w.heap.size, 5, none⟩) (Nat.le_refl _) (.string x.no))
  generalize ((((((W.setCell ⟨w.heap.size, 0, none⟩ (.string x.na)).setCell ⟨w.heap.size, 1, none⟩ (.string x.tx)).setCell ⟨w.heap.size, 2, none⟩ (.bool x.out)).setCell ⟨w.heap.size, 3, none⟩ (.string x.pu)).setCell ⟨w.heap.size, 4, none⟩ (.string x.sy)).setCell ⟨w.heap.size, 5, none⟩ (.string x.no)) = V at hV hE ⊢
  have d0 := cellsOf_block hV (j := 0) rfl
  have d1 := cellsOf_block hV (j := 1) rfl
  have d2 := cellsOf_block hV (j := 2) rfl
  have d3 := cellsOf_block hV (j := 3) rfl
  have d4 := cellsOf_block hV (j := 4) rfl
  have d5 := cellsOf_block hV (j := 5) rfl
  refine bodyPost_ret (v := .tuple #[.agg #[.string x.na, .string x.tx, .bool x.out, .string x.pu, .string x.sy, .string x.no], .bool true]) (by simp [results, Tryd.results37, go_sem, d0, d1, d2, d3, d4, d5]) rfl ?_
  exact ⟨rfl, hE⟩
end Go.Proofs.YtapjmfgpdkghlaaDoor
