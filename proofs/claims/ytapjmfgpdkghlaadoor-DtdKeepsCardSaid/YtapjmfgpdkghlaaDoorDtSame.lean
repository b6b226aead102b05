/- Attributes held against each other: narthexref15.Same, narthexref16.Same at declarations of attributes alone, narthexlaw17.Defs. Conditions: at most 2^20 of them. Printed by gen-dtsame.py and takef.py. -/
import Derived.Test.YtapjmfgpdkghlaaDoorDtGive
namespace Go.Proofs.YtapjmfgpdkghlaaDoor
open Go.RowKit Go.Maps
set_option linter.unusedVariables false
set_option linter.unusedSimpArgs false
def RetBB (b : Bool) (w : World) (e : Ending) (w' : World) : Prop := e = .returned (.bool b) ∧ Below w.heap.size w w'
theorem sum_no {α : Type} [DecidableEq α] {a b : α} (h : ¬ a = b) : decide (a = b) = false := decide_eq_false h
set_option maxHeartbeats 4000000 in
theorem same15_na (a b : Df) (w : World) (hl : TsAt w a.A a.p.ws.length a.p.ws) (hm : TsAt w b.A b.p.ws.length b.p.ws) (hn : a.p.ws.length ≤ 9223372036854775807) (h0 : ¬ a.p.na = b.p.na) :
    Calls Tryd.prog 47 #[a.v, b.v] w (RetBB false w) := by
  obtain ⟨⟨na, ki, ws, mo, va⟩, A, c⟩ := a
  obtain ⟨⟨na', ki', ws', mo', va'⟩, A', c'⟩ := b
  dsimp only at *
  obtain ⟨W1, hW1, hs1, hB1, bx1⟩ := boxWorld w #[.string na, .int .i64 ki, .slice A ws.length c, .int .i64 mo, .string va] 84
  obtain ⟨W2, hW2, hs2, hB2, bx2⟩ := boxWorld W1 #[.string na', .int .i64 ki', .slice A' ws'.length c', .int .i64 mo', .string va'] 84
  have e1 : W1.heap.size = w.heap.size + 1 := hs1
  rw [e1] at bx2
  have P1 := (hB2.block w.heap.size (by omega)).trans bx1
  have HB2 := Lib.hid (hB1.trans (hB2.mono hB1.size))
  have x0 : W2.cell? ⟨w.heap.size, 0, none⟩ = some (.string na) := cellsOf_block P1 rfl
  have x1 : W2.cell? ⟨w.heap.size, 1, none⟩ = some (.int .i64 ki) := cellsOf_block P1 rfl
  have x2 : W2.cell? ⟨w.heap.size, 2, none⟩ = some (.slice A ws.length c) := cellsOf_block P1 rfl
  have x3 : W2.cell? ⟨w.heap.size, 3, none⟩ = some (.int .i64 mo) := cellsOf_block P1 rfl
  have x4 : W2.cell? ⟨w.heap.size, 4, none⟩ = some (.string va) := cellsOf_block P1 rfl
  have y0 : W2.cell? ⟨w.heap.size + 1, 0, none⟩ = some (.string na') := cellsOf_block bx2 rfl
  have y1 : W2.cell? ⟨w.heap.size + 1, 1, none⟩ = some (.int .i64 ki') := cellsOf_block bx2 rfl
  have y2 : W2.cell? ⟨w.heap.size + 1, 2, none⟩ = some (.slice A' ws'.length c') := cellsOf_block bx2 rfl
  have y3 : W2.cell? ⟨w.heap.size + 1, 3, none⟩ = some (.int .i64 mo') := cellsOf_block bx2 rfl
  have y4 : W2.cell? ⟨w.heap.size + 1, 4, none⟩ = some (.string va') := cellsOf_block bx2 rfl
  show Calls _ _ #[.agg #[.string na, .int .i64 ki, .slice A ws.length c, .int .i64 mo, .string va], .agg #[.string na', .int .i64 ki', .slice A' ws'.length c', .int .i64 mo', .string va']] _ _
  have t0 := strT_no h0
  clear h0
  clear hB1 hB2 bx1 bx2 P1 hs1 hs2 hl hm
  go_enter Tryd.func47, Tryd.ntmps47
  go_upto_region 1 with (fail)
  clear hW1 hW2 e1
  go_wp2
  go_ret
  exact ⟨rfl, HB2.out⟩
set_option maxHeartbeats 4000000 in
theorem same15_ki (a b : Df) (w : World) (hl : TsAt w a.A a.p.ws.length a.p.ws) (hm : TsAt w b.A b.p.ws.length b.p.ws) (hn : a.p.ws.length ≤ 9223372036854775807) (h0 : a.p.na = b.p.na) (h1 : ¬ a.p.ki = b.p.ki) :
    Calls Tryd.prog 47 #[a.v, b.v] w (RetBB false w) := by
  obtain ⟨⟨na, ki, ws, mo, va⟩, A, c⟩ := a
  obtain ⟨⟨na', ki', ws', mo', va'⟩, A', c'⟩ := b
  dsimp only at *
  obtain ⟨W1, hW1, hs1, hB1, bx1⟩ := boxWorld w #[.string na, .int .i64 ki, .slice A ws.length c, .int .i64 mo, .string va] 84
  obtain ⟨W2, hW2, hs2, hB2, bx2⟩ := boxWorld W1 #[.string na', .int .i64 ki', .slice A' ws'.length c', .int .i64 mo', .string va'] 84
  have e1 : W1.heap.size = w.heap.size + 1 := hs1
  rw [e1] at bx2
  have P1 := (hB2.block w.heap.size (by omega)).trans bx1
  have HB2 := Lib.hid (hB1.trans (hB2.mono hB1.size))
  have x0 : W2.cell? ⟨w.heap.size, 0, none⟩ = some (.string na) := cellsOf_block P1 rfl
  have x1 : W2.cell? ⟨w.heap.size, 1, none⟩ = some (.int .i64 ki) := cellsOf_block P1 rfl
  have x2 : W2.cell? ⟨w.heap.size, 2, none⟩ = some (.slice A ws.length c) := cellsOf_block P1 rfl
  have x3 : W2.cell? ⟨w.heap.size, 3, none⟩ = some (.int .i64 mo) := cellsOf_block P1 rfl
  have x4 : W2.cell? ⟨w.heap.size, 4, none⟩ = some (.string va) := cellsOf_block P1 rfl
  have y0 : W2.cell? ⟨w.heap.size + 1, 0, none⟩ = some (.string na') := cellsOf_block bx2 rfl
  have y1 : W2.cell? ⟨w.heap.size + 1, 1, none⟩ = some (.int .i64 ki') := cellsOf_block bx2 rfl
  have y2 : W2.cell? ⟨w.heap.size + 1, 2, none⟩ = some (.slice A' ws'.length c') := cellsOf_block bx2 rfl
  have y3 : W2.cell? ⟨w.heap.size + 1, 3, none⟩ = some (.int .i64 mo') := cellsOf_block bx2 rfl
  have y4 : W2.cell? ⟨w.heap.size + 1, 4, none⟩ = some (.string va') := cellsOf_block bx2 rfl
  show Calls _ _ #[.agg #[.string na, .int .i64 ki, .slice A ws.length c, .int .i64 mo, .string va], .agg #[.string na', .int .i64 ki', .slice A' ws'.length c', .int .i64 mo', .string va']] _ _
  have t0 : (na.toList == na'.toList) = true := by rw [h0]; simp
  have t1 : (ki == ki') = false := by simpa using h1
  clear h0 h1
  clear hB1 hB2 bx1 bx2 P1 hs1 hs2 hl hm
  go_enter Tryd.func47, Tryd.ntmps47
  go_upto_region 1 with (fail)
  clear hW1 hW2 e1
  go_wp2
  go_ret
  exact ⟨rfl, HB2.out⟩
set_option maxHeartbeats 4000000 in
theorem same15_ws (a b : Df) (w : World) (hl : TsAt w a.A a.p.ws.length a.p.ws) (hm : TsAt w b.A b.p.ws.length b.p.ws) (hn : a.p.ws.length ≤ 9223372036854775807) (h0 : a.p.na = b.p.na) (h1 : a.p.ki = b.p.ki) (h2 : ¬ a.p.ws = b.p.ws) :
    Calls Tryd.prog 47 #[a.v, b.v] w (RetBB false w) := by
  obtain ⟨⟨na, ki, ws, mo, va⟩, A, c⟩ := a
  obtain ⟨⟨na', ki', ws', mo', va'⟩, A', c'⟩ := b
  dsimp only at *
  obtain ⟨W1, hW1, hs1, hB1, bx1⟩ := boxWorld w #[.string na, .int .i64 ki, .slice A ws.length c, .int .i64 mo, .string va] 84
  obtain ⟨W2, hW2, hs2, hB2, bx2⟩ := boxWorld W1 #[.string na', .int .i64 ki', .slice A' ws'.length c', .int .i64 mo', .string va'] 84
  have e1 : W1.heap.size = w.heap.size + 1 := hs1
  rw [e1] at bx2
  have P1 := (hB2.block w.heap.size (by omega)).trans bx1
  have HB2 := Lib.hid (hB1.trans (hB2.mono hB1.size))
  have x0 : W2.cell? ⟨w.heap.size, 0, none⟩ = some (.string na) := cellsOf_block P1 rfl
  have x1 : W2.cell? ⟨w.heap.size, 1, none⟩ = some (.int .i64 ki) := cellsOf_block P1 rfl
  have x2 : W2.cell? ⟨w.heap.size, 2, none⟩ = some (.slice A ws.length c) := cellsOf_block P1 rfl
  have x3 : W2.cell? ⟨w.heap.size, 3, none⟩ = some (.int .i64 mo) := cellsOf_block P1 rfl
  have x4 : W2.cell? ⟨w.heap.size, 4, none⟩ = some (.string va) := cellsOf_block P1 rfl
  have y0 : W2.cell? ⟨w.heap.size + 1, 0, none⟩ = some (.string na') := cellsOf_block bx2 rfl
  have y1 : W2.cell? ⟨w.heap.size + 1, 1, none⟩ = some (.int .i64 ki') := cellsOf_block bx2 rfl
  have y2 : W2.cell? ⟨w.heap.size + 1, 2, none⟩ = some (.slice A' ws'.length c') := cellsOf_block bx2 rfl
  have y3 : W2.cell? ⟨w.heap.size + 1, 3, none⟩ = some (.int .i64 mo') := cellsOf_block bx2 rfl
  have y4 : W2.cell? ⟨w.heap.size + 1, 4, none⟩ = some (.string va') := cellsOf_block bx2 rfl
  show Calls _ _ #[.agg #[.string na, .int .i64 ki, .slice A ws.length c, .int .i64 mo, .string va], .agg #[.string na', .int .i64 ki', .slice A' ws'.length c', .int .i64 mo', .string va']] _ _
  have t0 : (na.toList == na'.toList) = true := by rw [h0]; simp
  have t1 : (ki == ki') = true := by simpa using h1
  have t2 := decide_eq_false h2
  have T2 := Lib.hid t2
  clear h0 h1 h2 t2
  have C := Lib.hid (rtexts_any A ws.length c ws A' ws'.length c' ws' W2 ((hl.below hB1).below hB2) ((hm.below hB1).below hB2) hn)
  clear hB1 hB2 bx1 bx2 P1 hs1 hs2 hl hm
  go_enter Tryd.func47, Tryd.ntmps47
  go_upto_region 1 with (fail)
  clear hW1 hW2 e1
  go_wp2_with fail
  refine C.out.mono ?_
  rintro e w3 ⟨rfl, dd, rfl⟩
  rw [T2.out]
  have HB3 := Lib.hid (below_drewN HB2.out dd)
  clear C
  go_wp2
  go_ret
  exact ⟨rfl, HB3.out⟩
set_option maxHeartbeats 4000000 in
theorem same15_mo (a b : Df) (w : World) (hl : TsAt w a.A a.p.ws.length a.p.ws) (hm : TsAt w b.A b.p.ws.length b.p.ws) (hn : a.p.ws.length ≤ 9223372036854775807) (h0 : a.p.na = b.p.na) (h1 : a.p.ki = b.p.ki) (h2 : a.p.ws = b.p.ws) (h3 : ¬ a.p.mo = b.p.mo) :
    Calls Tryd.prog 47 #[a.v, b.v] w (RetBB false w) := by
  obtain ⟨⟨na, ki, ws, mo, va⟩, A, c⟩ := a
  obtain ⟨⟨na', ki', ws', mo', va'⟩, A', c'⟩ := b
  dsimp only at *
  obtain ⟨W1, hW1, hs1, hB1, bx1⟩ := boxWorld w #[.string na, .int .i64 ki, .slice A ws.length c, .int .i64 mo, .string va] 84
  obtain ⟨W2, hW2, hs2, hB2, bx2⟩ := boxWorld W1 #[.string na', .int .i64 ki', .slice A' ws'.length c', .int .i64 mo', .string va'] 84
  have e1 : W1.heap.size = w.heap.size + 1 := hs1
  rw [e1] at bx2
  have P1 := (hB2.block w.heap.size (by omega)).trans bx1
  have HB2 := Lib.hid (hB1.trans (hB2.mono hB1.size))
  have x0 : W2.cell? ⟨w.heap.size, 0, none⟩ = some (.string na) := cellsOf_block P1 rfl
  have x1 : W2.cell? ⟨w.heap.size, 1, none⟩ = some (.int .i64 ki) := cellsOf_block P1 rfl
  have x2 : W2.cell? ⟨w.heap.size, 2, none⟩ = some (.slice A ws.length c) := cellsOf_block P1 rfl
  have x3 : W2.cell? ⟨w.heap.size, 3, none⟩ = some (.int .i64 mo) := cellsOf_block P1 rfl
  have x4 : W2.cell? ⟨w.heap.size, 4, none⟩ = some (.string va) := cellsOf_block P1 rfl
  have y0 : W2.cell? ⟨w.heap.size + 1, 0, none⟩ = some (.string na') := cellsOf_block bx2 rfl
  have y1 : W2.cell? ⟨w.heap.size + 1, 1, none⟩ = some (.int .i64 ki') := cellsOf_block bx2 rfl
  have y2 : W2.cell? ⟨w.heap.size + 1, 2, none⟩ = some (.slice A' ws'.length c') := cellsOf_block bx2 rfl
  have y3 : W2.cell? ⟨w.heap.size + 1, 3, none⟩ = some (.int .i64 mo') := cellsOf_block bx2 rfl
  have y4 : W2.cell? ⟨w.heap.size + 1, 4, none⟩ = some (.string va') := cellsOf_block bx2 rfl
  show Calls _ _ #[.agg #[.string na, .int .i64 ki, .slice A ws.length c, .int .i64 mo, .string va], .agg #[.string na', .int .i64 ki', .slice A' ws'.length c', .int .i64 mo', .string va']] _ _
  have t0 : (na.toList == na'.toList) = true := by rw [h0]; simp
  have t1 : (ki == ki') = true := by simpa using h1
  have t2 := decide_eq_true h2
  have T2 := Lib.hid t2
  have t3 : (mo == mo') = false := by simpa using h3
  clear h0 h1 h2 h3 t2
  have C := Lib.hid (rtexts_any A ws.length c ws A' ws'.length c' ws' W2 ((hl.below hB1).below hB2) ((hm.below hB1).below hB2) hn)
  clear hB1 hB2 bx1 bx2 P1 hs1 hs2 hl hm
  go_enter Tryd.func47, Tryd.ntmps47
  go_upto_region 1 with (fail)
  clear hW1 hW2 e1
  go_wp2_with fail
  refine C.out.mono ?_
  rintro e w3 ⟨rfl, dd, rfl⟩
  rw [T2.out]
  have HB3 := Lib.hid (below_drewN HB2.out dd)
  clear C
  go_wp2
  go_ret
  exact ⟨rfl, HB3.out⟩
set_option maxHeartbeats 4000000 in
theorem same15_va (a b : Df) (w : World) (hl : TsAt w a.A a.p.ws.length a.p.ws) (hm : TsAt w b.A b.p.ws.length b.p.ws) (hn : a.p.ws.length ≤ 9223372036854775807) (h0 : a.p.na = b.p.na) (h1 : a.p.ki = b.p.ki) (h2 : a.p.ws = b.p.ws) (h3 : a.p.mo = b.p.mo) (h4 : ¬ a.p.va = b.p.va) :
    Calls Tryd.prog 47 #[a.v, b.v] w (RetBB false w) := by
  obtain ⟨⟨na, ki, ws, mo, va⟩, A, c⟩ := a
  obtain ⟨⟨na', ki', ws', mo', va'⟩, A', c'⟩ := b
  dsimp only at *
  obtain ⟨W1, hW1, hs1, hB1, bx1⟩ := boxWorld w #[.string na, .int .i64 ki, .slice A ws.length c, .int .i64 mo, .string va] 84
  obtain ⟨W2, hW2, hs2, hB2, bx2⟩ := boxWorld W1 #[.string na', .int .i64 ki', .slice A' ws'.length c', .int .i64 mo', .string va'] 84
  have e1 : W1.heap.size = w.heap.size + 1 := hs1
  rw [e1] at bx2
  have P1 := (hB2.block w.heap.size (by omega)).trans bx1
  have HB2 := Lib.hid (hB1.trans (hB2.mono hB1.size))
  have x0 : W2.cell? ⟨w.heap.size, 0, none⟩ = some (.string na) := cellsOf_block P1 rfl
  have x1 : W2.cell? ⟨w.heap.size, 1, none⟩ = some (.int .i64 ki) := cellsOf_block P1 rfl
  have x2 : W2.cell? ⟨w.heap.size, 2, none⟩ = some (.slice A ws.length c) := cellsOf_block P1 rfl
  have x3 : W2.cell? ⟨w.heap.size, 3, none⟩ = some (.int .i64 mo) := cellsOf_block P1 rfl
  have x4 : W2.cell? ⟨w.heap.size, 4, none⟩ = some (.string va) := cellsOf_block P1 rfl
  have y0 : W2.cell? ⟨w.heap.size + 1, 0, none⟩ = some (.string na') := cellsOf_block bx2 rfl
  have y1 : W2.cell? ⟨w.heap.size + 1, 1, none⟩ = some (.int .i64 ki') := cellsOf_block bx2 rfl
  have y2 : W2.cell? ⟨w.heap.size + 1, 2, none⟩ = some (.slice A' ws'.length c') := cellsOf_block bx2 rfl
  have y3 : W2.cell? ⟨w.heap.size + 1, 3, none⟩ = some (.int .i64 mo') := cellsOf_block bx2 rfl
  have y4 : W2.cell? ⟨w.heap.size + 1, 4, none⟩ = some (.string va') := cellsOf_block bx2 rfl
  show Calls _ _ #[.agg #[.string na, .int .i64 ki, .slice A ws.length c, .int .i64 mo, .string va], .agg #[.string na', .int .i64 ki', .slice A' ws'.length c', .int .i64 mo', .string va']] _ _
  have t0 : (na.toList == na'.toList) = true := by rw [h0]; simp
  have t1 : (ki == ki') = true := by simpa using h1
  have t3 : (mo == mo') = true := by simpa using h3
  have t2 := decide_eq_true h2
  have T2 := Lib.hid t2
  have t4 := strT_no h4
  clear h0 h1 h2 h3 h4 t2
  have C := Lib.hid (rtexts_any A ws.length c ws A' ws'.length c' ws' W2 ((hl.below hB1).below hB2) ((hm.below hB1).below hB2) hn)
  clear hB1 hB2 bx1 bx2 P1 hs1 hs2 hl hm
  go_enter Tryd.func47, Tryd.ntmps47
  go_upto_region 1 with (fail)
  clear hW1 hW2 e1
  go_wp2_with fail
  refine C.out.mono ?_
  rintro e w3 ⟨rfl, dd, rfl⟩
  rw [T2.out]
  have HB3 := Lib.hid (below_drewN HB2.out dd)
  clear C
  go_wp2
  go_ret
  exact ⟨rfl, HB3.out⟩
set_option maxHeartbeats 4000000 in
theorem same15_yes (a b : Df) (w : World) (hl : TsAt w a.A a.p.ws.length a.p.ws) (hm : TsAt w b.A b.p.ws.length b.p.ws) (hn : a.p.ws.length ≤ 9223372036854775807) (h0 : a.p.na = b.p.na) (h1 : a.p.ki = b.p.ki) (h2 : a.p.ws = b.p.ws) (h3 : a.p.mo = b.p.mo) (h4 : a.p.va = b.p.va) :
    Calls Tryd.prog 47 #[a.v, b.v] w (RetBB true w) := by
  obtain ⟨⟨na, ki, ws, mo, va⟩, A, c⟩ := a
  obtain ⟨⟨na', ki', ws', mo', va'⟩, A', c'⟩ := b
  dsimp only at *
  obtain ⟨W1, hW1, hs1, hB1, bx1⟩ := boxWorld w #[.string na, .int .i64 ki, .slice A ws.length c, .int .i64 mo, .string va] 84
  obtain ⟨W2, hW2, hs2, hB2, bx2⟩ := boxWorld W1 #[.string na', .int .i64 ki', .slice A' ws'.length c', .int .i64 mo', .string va'] 84
  have e1 : W1.heap.size = w.heap.size + 1 := hs1
  rw [e1] at bx2
  have P1 := (hB2.block w.heap.size (by omega)).trans bx1
  have HB2 := Lib.hid (hB1.trans (hB2.mono hB1.size))
  have x0 : W2.cell? ⟨w.heap.size, 0, none⟩ = some (.string na) := cellsOf_block P1 rfl
  have x1 : W2.cell? ⟨w.heap.size, 1, none⟩ = some (.int .i64 ki) := cellsOf_block P1 rfl
  have x2 : W2.cell? ⟨w.heap.size, 2, none⟩ = some (.slice A ws.length c) := cellsOf_block P1 rfl
  have x3 : W2.cell? ⟨w.heap.size, 3, none⟩ = some (.int .i64 mo) := cellsOf_block P1 rfl
  have x4 : W2.cell? ⟨w.heap.size, 4, none⟩ = some (.string va) := cellsOf_block P1 rfl
  have y0 : W2.cell? ⟨w.heap.size + 1, 0, none⟩ = some (.string na') := cellsOf_block bx2 rfl
  have y1 : W2.cell? ⟨w.heap.size + 1, 1, none⟩ = some (.int .i64 ki') := cellsOf_block bx2 rfl
  have y2 : W2.cell? ⟨w.heap.size + 1, 2, none⟩ = some (.slice A' ws'.length c') := cellsOf_block bx2 rfl
  have y3 : W2.cell? ⟨w.heap.size + 1, 3, none⟩ = some (.int .i64 mo') := cellsOf_block bx2 rfl
  have y4 : W2.cell? ⟨w.heap.size + 1, 4, none⟩ = some (.string va') := cellsOf_block bx2 rfl
  show Calls _ _ #[.agg #[.string na, .int .i64 ki, .slice A ws.length c, .int .i64 mo, .string va], .agg #[.string na', .int .i64 ki', .slice A' ws'.length c', .int .i64 mo', .string va']] _ _
  have t0 : (na.toList == na'.toList) = true := by rw [h0]; simp
  have t1 : (ki == ki') = true := by simpa using h1
  have t3 : (mo == mo') = true := by simpa using h3
  have t2 := decide_eq_true h2
  have T2 := Lib.hid t2
  have t4 : (va.toList == va'.toList) = true := by rw [h4]; simp
  clear h0 h1 h2 h3 h4 t2
  have C := Lib.hid (rtexts_any A ws.length c ws A' ws'.length c' ws' W2 ((hl.below hB1).below hB2) ((hm.below hB1).below hB2) hn)
  clear hB1 hB2 bx1 bx2 P1 hs1 hs2 hl hm
  go_enter Tryd.func47, Tryd.ntmps47
  go_upto_region 1 with (fail)
  clear hW1 hW2 e1
  go_wp2_with fail
  refine C.out.mono ?_
  rintro e w3 ⟨rfl, dd, rfl⟩
  rw [T2.out]
  have HB3 := Lib.hid (below_drewN HB2.out dd)
  clear C
  go_wp2
  go_ret
  exact ⟨rfl, HB3.out⟩
theorem same15_any (a b : Df) (w : World) (hl : TsAt w a.A a.p.ws.length a.p.ws) (hm : TsAt w b.A b.p.ws.length b.p.ws) (hn : a.p.ws.length ≤ 9223372036854775807) :
    Calls Tryd.prog 47 #[a.v, b.v] w (RetBB (decide (a.p = b.p)) w) := by
  by_cases h0 : a.p.na = b.p.na
  · by_cases h1 : a.p.ki = b.p.ki
    · by_cases h2 : a.p.ws = b.p.ws
      · by_cases h3 : a.p.mo = b.p.mo
        · by_cases h4 : a.p.va = b.p.va
          · rw [decide_eq_true (show a.p = b.p by
              obtain ⟨⟨_, _, _, _, _⟩, _, _⟩ := a
              obtain ⟨⟨_, _, _, _, _⟩, _, _⟩ := b
              dsimp only at *
              rw [h0, h1, h2, h3, h4])]
            exact same15_yes a b w hl hm hn h0 h1 h2 h3 h4
          · rw [decide_eq_false (fun h => h4 (by rw [h]))]
            exact same15_va a b w hl hm hn h0 h1 h2 h3 h4
        · rw [decide_eq_false (fun h => h3 (by rw [h]))]
          exact same15_mo a b w hl hm hn h0 h1 h2 h3
      · rw [decide_eq_false (fun h => h2 (by rw [h]))]
        exact same15_ws a b w hl hm hn h0 h1 h2
    · rw [decide_eq_false (fun h => h1 (by rw [h]))]
      exact same15_ki a b w hl hm hn h0 h1
  · rw [decide_eq_false (fun h => h0 (by rw [h]))]
    exact same15_na a b w hl hm hn h0
def zeroDc (A : Option Addr) (n c : Nat) : Value := .agg #[.int .i64 0, .string ⟨#[]⟩, .bool false, .string ⟨#[]⟩, .string ⟨#[]⟩, .bool false, .string ⟨#[]⟩, .string ⟨#[]⟩, .string ⟨#[]⟩, .slice A n c, .string ⟨#[]⟩, .string ⟨#[]⟩, .string ⟨#[]⟩]
set_option maxRecDepth 100000 in
set_option maxHeartbeats 8000000 in
theorem same16_any (A : Option Addr) (n c : Nat) (l : List Df) (B : Option Addr) (m d : Nat) (l2 : List Df) (w : World) (hl : DfsAt w A n l) (hm : DfsAt w B m l2) (hn : n ≤ 1048576) (hws : ∀ x ∈ l, x.p.ws.length ≤ 1048576) :
    Calls Tryd.prog 31 #[zeroDc A n c, zeroDc B m d] w (RetBB (decide (l.map Df.p = l2.map Df.p)) w) := by
  obtain ⟨W1, hW1, hs1, hB1, bx1⟩ := boxWorld w #[.int .i64 0, .string ⟨#[]⟩, .bool false, .string ⟨#[]⟩, .string ⟨#[]⟩, .bool false, .string ⟨#[]⟩, .string ⟨#[]⟩, .string ⟨#[]⟩, .slice A n c, .string ⟨#[]⟩, .string ⟨#[]⟩, .string ⟨#[]⟩] 54
  obtain ⟨W2, hW2, hs2, hB2, bx2⟩ := boxWorld W1 #[.int .i64 0, .string ⟨#[]⟩, .bool false, .string ⟨#[]⟩, .string ⟨#[]⟩, .bool false, .string ⟨#[]⟩, .string ⟨#[]⟩, .string ⟨#[]⟩, .slice B m d, .string ⟨#[]⟩, .string ⟨#[]⟩, .string ⟨#[]⟩] 54
  have e1 : W1.heap.size = w.heap.size + 1 := hs1
  have e2 : W2.heap.size = w.heap.size + 2 := by omega
  rw [e1] at bx2
  have P1 := (hB2.block w.heap.size (by omega)).trans bx1
  have HB2 := Lib.hid (hB1.trans (hB2.mono hB1.size))
  have L := Lib.hid ((hl.below hB1).below hB2)
  have M := Lib.hid ((hm.below hB1).below hB2)
  have X1 := Lib.hid P1
  have X2 := Lib.hid bx2
  have E2 := Lib.hid e2
  have HWS := Lib.hid hws
  have x9 : W2.cell? ⟨w.heap.size, 9, none⟩ = some (.slice A n c) := cellsOf_block P1 rfl
  have y9 : W2.cell? ⟨w.heap.size + 1, 9, none⟩ = some (.slice B m d) := cellsOf_block bx2 rfl
  have hLL := Lib.hid hl.1
  have hML := Lib.hid hm.1
  show Calls _ _ #[.agg #[.int .i64 0, .string ⟨#[]⟩, .bool false, .string ⟨#[]⟩, .string ⟨#[]⟩, .bool false, .string ⟨#[]⟩, .string ⟨#[]⟩, .string ⟨#[]⟩, .slice A n c, .string ⟨#[]⟩, .string ⟨#[]⟩, .string ⟨#[]⟩], .agg #[.int .i64 0, .string ⟨#[]⟩, .bool false, .string ⟨#[]⟩, .string ⟨#[]⟩, .bool false, .string ⟨#[]⟩, .string ⟨#[]⟩, .string ⟨#[]⟩, .slice B m d, .string ⟨#[]⟩, .string ⟨#[]⟩, .string ⟨#[]⟩]] _ _
  clear hB1 hB2 bx1 bx2 P1 hs1 hs2 hl hm hws
  by_cases hne : n = m
  · subst hne
    go_enter Tryd.func31, Tryd.ntmps31
    go_upto_region 1 with (fail)
    clear hW1 hW2 e1 e2
    go_wp2
    clear x9 y9
    go_loopw [5] (fun i wr => ∃ (k : Nat), k ≤ n ∧ i = .int .i64 k ∧ Hid ((l.map Df.p).take k = (l2.map Df.p).take k) ∧ Hid (Below W2.heap.size W2 wr)) (fun i _ => n - (intOf i).toNat)
    case atStart => exact ⟨0, by omega, rfl, rfl, Below.refl _ _⟩
    case round =>
      obtain ⟨k, hk, rfl, HT, HB⟩ := hrel
      have P1 := (HB.out.block w.heap.size (by have := E2.out; omega)).trans X1.out
      have P2 := (HB.out.block (w.heap.size + 1) (by have := E2.out; omega)).trans X2.out
      have HBA := Lib.hid (HB2.out.trans (HB.out.mono HB2.out.size))
      by_cases hlt : k < n
      · obtain ⟨a, x, rfl, hx, gx, hwx⟩ := (DfsAt.below (w := W2) L.out HB.out).2 k hlt
        obtain ⟨b, y, rfl, hy, gy, hwy⟩ := (DfsAt.below (w := W2) M.out HB.out).2 k hlt
        have b0 : (0 : Int) ≤ (k : Int) := by omega
        have b1 : (k : Int) < (n : Int) := by omega
        have z0 : wr.cell? ⟨w.heap.size, 9, none⟩ = some (.slice (some a) n c) := cellsOf_block P1 rfl
        have hxm := HWS.out x (List.mem_of_getElem? hx)
        have C := Lib.hid (same15_any x y wr.drew (hwx.below (Below.refl _ _).drew) (hwy.below (Below.refl _ _).drew) (by omega))
        have s0 : wr.drew.cell? ⟨w.heap.size, 9, none⟩ = some (.slice (some a) n c) := cellsOf_block P1 rfl
        have s1 : wr.drew.cell? ⟨w.heap.size + 1, 9, none⟩ = some (.slice (some b) n d) := cellsOf_block P2 rfl
        have q0 : w.heap.size < wr.heap.size := (Array.getElem?_eq_some_iff.1 P1).1
        have q1 : w.heap.size + 1 < wr.heap.size := (Array.getElem?_eq_some_iff.1 P2).1
        obtain ⟨al, f0, f1, f2, f3, f4⟩ := gx
        obtain ⟨bl, h0, h1, h2, h3, h4⟩ := gy

        have HS : Hid (∀ V, Below wr.heap.size wr V → V.cell? ⟨w.heap.size, 9, none⟩ = some (.slice (some a) n c) ∧ V.cell? ⟨w.heap.size + 1, 9, none⟩ = some (.slice (some b) n d) ∧ V.cell? (a.add (k * 5)) = some (.string x.p.na) ∧ V.cell? ⟨(a.add (k * 5)).block, (a.add (k * 5)).off + 1, none⟩ = some (.int .i64 x.p.ki) ∧ V.cell? ⟨(a.add (k * 5)).block, (a.add (k * 5)).off + 2, none⟩ = some (.slice x.A x.p.ws.length x.c) ∧ V.cell? ⟨(a.add (k * 5)).block, (a.add (k * 5)).off + 3, none⟩ = some (.int .i64 x.p.mo) ∧ V.cell? ⟨(a.add (k * 5)).block, (a.add (k * 5)).off + 4, none⟩ = some (.string x.p.va) ∧ V.cell? (b.add (k * 5)) = some (.string y.p.na) ∧ V.cell? ⟨(b.add (k * 5)).block, (b.add (k * 5)).off + 1, none⟩ = some (.int .i64 y.p.ki) ∧ V.cell? ⟨(b.add (k * 5)).block, (b.add (k * 5)).off + 2, none⟩ = some (.slice y.A y.p.ws.length y.c) ∧ V.cell? ⟨(b.add (k * 5)).block, (b.add (k * 5)).off + 3, none⟩ = some (.int .i64 y.p.mo) ∧ V.cell? ⟨(b.add (k * 5)).block, (b.add (k * 5)).off + 4, none⟩ = some (.string y.p.va)) := Lib.hid (fun V hV => ⟨(hV.cell (p := ⟨w.heap.size, 9, none⟩) q0).trans s0, (hV.cell (p := ⟨w.heap.size + 1, 9, none⟩) q1).trans s1, (hV.cell (p := (a.add (k * 5))) al).trans f0, (hV.cell (p := ⟨(a.add (k * 5)).block, (a.add (k * 5)).off + 1, none⟩) al).trans f1, (hV.cell (p := ⟨(a.add (k * 5)).block, (a.add (k * 5)).off + 2, none⟩) al).trans f2, (hV.cell (p := ⟨(a.add (k * 5)).block, (a.add (k * 5)).off + 3, none⟩) al).trans f3, (hV.cell (p := ⟨(a.add (k * 5)).block, (a.add (k * 5)).off + 4, none⟩) al).trans f4, (hV.cell (p := (b.add (k * 5))) bl).trans h0, (hV.cell (p := ⟨(b.add (k * 5)).block, (b.add (k * 5)).off + 1, none⟩) bl).trans h1, (hV.cell (p := ⟨(b.add (k * 5)).block, (b.add (k * 5)).off + 2, none⟩) bl).trans h2, (hV.cell (p := ⟨(b.add (k * 5)).block, (b.add (k * 5)).off + 3, none⟩) bl).trans h3, (hV.cell (p := ⟨(b.add (k * 5)).block, (b.add (k * 5)).off + 4, none⟩) bl).trans h4⟩)
        have HPX := Lib.hid (show (l.map Df.p)[k]? = some x.p by rw [List.getElem?_map, hx]; rfl)
        have HPY := Lib.hid (show (l2.map Df.p)[k]? = some y.p by rw [List.getElem?_map, hy]; rfl)
        clear hx hy hwx hwy P1 P2 hxm
        go_wp2_with fail
        clear z0
        refine wp_region_held_drew (S := fun V => V.cell? ⟨w.heap.size, 9, none⟩ = some (.slice (some a) n c) ∧ V.cell? ⟨w.heap.size + 1, 9, none⟩ = some (.slice (some b) n d) ∧ V.cell? (a.add (k * 5)) = some (.string x.p.na) ∧ V.cell? ⟨(a.add (k * 5)).block, (a.add (k * 5)).off + 1, none⟩ = some (.int .i64 x.p.ki) ∧ V.cell? ⟨(a.add (k * 5)).block, (a.add (k * 5)).off + 2, none⟩ = some (.slice x.A x.p.ws.length x.c) ∧ V.cell? ⟨(a.add (k * 5)).block, (a.add (k * 5)).off + 3, none⟩ = some (.int .i64 x.p.mo) ∧ V.cell? ⟨(a.add (k * 5)).block, (a.add (k * 5)).off + 4, none⟩ = some (.string x.p.va) ∧ V.cell? (b.add (k * 5)) = some (.string y.p.na) ∧ V.cell? ⟨(b.add (k * 5)).block, (b.add (k * 5)).off + 1, none⟩ = some (.int .i64 y.p.ki) ∧ V.cell? ⟨(b.add (k * 5)).block, (b.add (k * 5)).off + 2, none⟩ = some (.slice y.A y.p.ws.length y.c) ∧ V.cell? ⟨(b.add (k * 5)).block, (b.add (k * 5)).off + 3, none⟩ = some (.int .i64 y.p.mo) ∧ V.cell? ⟨(b.add (k * 5)).block, (b.add (k * 5)).off + 4, none⟩ = some (.string y.p.va)) (by kernel_rfl) (HS.out _ (Below.refl _ _).drew) (fun hHeld => ?_)
        --TAKES narthex/narthexref16.Same:6 0..9
        refine wpAnyH_take (i := 0) (oi := ({ dst := some 20, op := Op.fieldAddr 54 (Operand.tmp 2) 4, type := 0, pos := "ref.go:275", after := #[], guard := none } : Oper)) (v := ?_) rfl (by kernel_rfl) (by kernel_rfl) (by kernel_rfl) (fun _ _ _ h => h) (Or.inl ⟨by rfl, ?_⟩) (by assumption) ?_
        rotate_left 1
        · intro w hSw; (try dsimp only at hSw); go_simp; try with_reducible rfl
        (try simp only [Act.put, List.setIfInBounds_toArray, List.set_cons_zero, List.set_cons_succ])
        refine wpAnyH_take (i := 1) (oi := ({ dst := some 21, op := Op.load 33 (Operand.tmp 20), type := 33, pos := "ref.go:275", after := #[{ on := 0, ground := Ground.data }], guard := none } : Oper)) (v := ?_) rfl (by kernel_rfl) (by kernel_rfl) (by kernel_rfl) (fun _ _ _ h => h) (Or.inl ⟨by rfl, ?_⟩) (by assumption) ?_
        rotate_left 1
        · intro w hSw; (try dsimp only at hSw); go_simp; try with_reducible rfl
        (try simp only [Act.put, List.setIfInBounds_toArray, List.set_cons_zero, List.set_cons_succ])
        refine wpAnyH_take (i := 2) (oi := ({ dst := some 22, op := Op.move (Operand.tmp 5), type := 3, pos := "ref.go:275", after := #[], guard := none } : Oper)) (v := ?_) rfl (by kernel_rfl) (by kernel_rfl) (by kernel_rfl) (fun _ _ _ h => h) (Or.inl ⟨by rfl, ?_⟩) (by assumption) ?_
        rotate_left 1
        · intro w hSw; (try dsimp only at hSw); go_simp; try with_reducible rfl
        (try simp only [Act.put, List.setIfInBounds_toArray, List.set_cons_zero, List.set_cons_succ])
        refine wpAnyH_take (i := 3) (oi := ({ dst := some 23, op := Op.indexAddr 33 (Operand.tmp 21) (Operand.tmp 22), type := 0, pos := "ref.go:275", after := #[{ on := 1, ground := Ground.data }, { on := 2, ground := Ground.data }], guard := none } : Oper)) (v := ?_) rfl (by kernel_rfl) (by kernel_rfl) (by kernel_rfl) (fun _ _ _ h => h) (Or.inl ⟨by rfl, ?_⟩) (by assumption) ?_
        rotate_left 1
        · intro w hSw; (try dsimp only at hSw); go_simp; try with_reducible rfl
        (try simp only [Act.put, List.setIfInBounds_toArray, List.set_cons_zero, List.set_cons_succ])
        refine wpAnyH_take (i := 4) (oi := ({ dst := some 24, op := Op.load 84 (Operand.tmp 23), type := 84, pos := "ref.go:275", after := #[{ on := 3, ground := Ground.data }], guard := none } : Oper)) (v := ?_) rfl (by kernel_rfl) (by kernel_rfl) (by kernel_rfl) (fun _ _ _ h => h) (Or.inl ⟨by rfl, ?_⟩) (by assumption) ?_
        rotate_left 1
        · intro w hSw; (try dsimp only at hSw); go_simp; try with_reducible rfl
        (try simp only [Act.put, List.setIfInBounds_toArray, List.set_cons_zero, List.set_cons_succ])
        refine wpAnyH_take (i := 5) (oi := ({ dst := some 25, op := Op.fieldAddr 54 (Operand.tmp 3) 4, type := 0, pos := "ref.go:275", after := #[], guard := none } : Oper)) (v := ?_) rfl (by kernel_rfl) (by kernel_rfl) (by kernel_rfl) (fun _ _ _ h => h) (Or.inl ⟨by rfl, ?_⟩) (by assumption) ?_
        rotate_left 1
        · intro w hSw; (try dsimp only at hSw); go_simp; try with_reducible rfl
        (try simp only [Act.put, List.setIfInBounds_toArray, List.set_cons_zero, List.set_cons_succ])
        refine wpAnyH_take (i := 6) (oi := ({ dst := some 26, op := Op.load 33 (Operand.tmp 25), type := 33, pos := "ref.go:275", after := #[{ on := 5, ground := Ground.data }], guard := none } : Oper)) (v := ?_) rfl (by kernel_rfl) (by kernel_rfl) (by kernel_rfl) (fun _ _ _ h => h) (Or.inl ⟨by rfl, ?_⟩) (by assumption) ?_
        rotate_left 1
        · intro w hSw; (try dsimp only at hSw); go_simp; try with_reducible rfl
        (try simp only [Act.put, List.setIfInBounds_toArray, List.set_cons_zero, List.set_cons_succ])
        refine wpAnyH_take (i := 7) (oi := ({ dst := some 27, op := Op.move (Operand.tmp 5), type := 3, pos := "ref.go:275", after := #[], guard := none } : Oper)) (v := ?_) rfl (by kernel_rfl) (by kernel_rfl) (by kernel_rfl) (fun _ _ _ h => h) (Or.inl ⟨by rfl, ?_⟩) (by assumption) ?_
        rotate_left 1
        · intro w hSw; (try dsimp only at hSw); go_simp; try with_reducible rfl
        (try simp only [Act.put, List.setIfInBounds_toArray, List.set_cons_zero, List.set_cons_succ])
        refine wpAnyH_take (i := 8) (oi := ({ dst := some 28, op := Op.indexAddr 33 (Operand.tmp 26) (Operand.tmp 27), type := 0, pos := "ref.go:275", after := #[{ on := 6, ground := Ground.data }, { on := 7, ground := Ground.data }], guard := none } : Oper)) (v := ?_) rfl (by kernel_rfl) (by kernel_rfl) (by kernel_rfl) (fun _ _ _ h => h) (Or.inl ⟨by rfl, ?_⟩) (by assumption) ?_
        rotate_left 1
        · intro w hSw; (try dsimp only at hSw); go_simp; try with_reducible rfl
        (try simp only [Act.put, List.setIfInBounds_toArray, List.set_cons_zero, List.set_cons_succ])
        refine wpAnyH_take (i := 9) (oi := ({ dst := some 29, op := Op.load 84 (Operand.tmp 28), type := 84, pos := "ref.go:275", after := #[{ on := 8, ground := Ground.data }], guard := none } : Oper)) (v := ?_) rfl (by kernel_rfl) (by kernel_rfl) (by kernel_rfl) (fun _ _ _ h => h) (Or.inl ⟨by rfl, ?_⟩) (by assumption) ?_
        rotate_left 1
        · intro w hSw; (try dsimp only at hSw); go_simp; try with_reducible rfl
        (try simp only [Act.put, List.setIfInBounds_toArray, List.set_cons_zero, List.set_cons_succ])
        --END
        refine wpAnyH_ready (rs := [10]) (by kernel_rfl) (by simp) ?_
        refine AllReadyH.cons (o := _) rfl (fun K hK => ?_) AllReadyH.nil
        go_simp
        refine C.out.mono ?_
        rintro e w6 ⟨rfl, hB6⟩
        have hB6' : Below wr.heap.size wr w6 := (show Below wr.heap.size wr wr.drew from (Below.refl _ _).drew).trans hB6
        have HB6 := Lib.hid (HB.out.trans (hB6'.mono HB.out.size))
        have HBE := Lib.hid (HBA.out.trans (hB6'.mono HBA.out.size))
        have hS6 := HS.out w6 hB6'
        dsimp only
        refine hK.out _ _ hS6 (fun hHeld => ?_)
        clear hK K hS6 hB6 hB6' C HS
        (try simp only [Act.put, List.setIfInBounds_toArray, List.set_cons_zero, List.set_cons_succ])
        --TAKES narthex/narthexref16.Same:6 11
        refine wpAnyH_take (i := 11) (oi := ({ dst := some 31, op := Op.unOp UnOp.not 4 (Operand.tmp 30), type := 4, pos := "ref.go:275", after := #[{ on := 10, ground := Ground.data }], guard := none } : Oper)) (v := ?_) rfl (by kernel_rfl) (by kernel_rfl) (by kernel_rfl) (fun _ _ _ h => h) (Or.inl ⟨by rfl, ?_⟩) (by assumption) ?_
        rotate_left 1
        · intro w hSw; (try dsimp only at hSw); go_simp; try with_reducible rfl
        (try simp only [Act.put, List.setIfInBounds_toArray, List.set_cons_zero, List.set_cons_succ])
        --END
        refine wpAnyH_done (by kernel_rfl) ?_ _
        clear hHeld
        clear f0 h0 f1 h1 f2 h2 f3 h3 f4 h4 s0 s1 al bl q0 q1
        by_cases hxy : x.p = y.p
        · rw [decide_eq_true hxy]
          have HT2 := Lib.hid (takesEqT HT.out HPX.out (by rw [hxy]; exact HPY.out))
          clear hxy
          go_wp2
          go_roundw
          case rel => exact ⟨k + 1, by omega, by go_num, HT2, HB6⟩
          case measure => simp [intOf]; omega
        · rw [decide_eq_false hxy]
          have G : decide (l.map Df.p = l2.map Df.p) = false := by
            refine decide_eq_false fun h => hxy ?_
            have h1 := HPX.out
            rw [h, HPY.out] at h1
            exact (Option.some.inj h1).symm
          have HG := Lib.hid G
          clear hxy G
          go_wp2
          go_ret
          rw [HG.out]
          exact ⟨rfl, HBE.out⟩
      · obtain rfl : k = n := by omega
        have G : decide (l.map Df.p = l2.map Df.p) = true := by
          refine decide_eq_true ?_
          have := HT.out
          rwa [List.take_of_length_le (by rw [List.length_map, hLL.out]; exact Nat.le_refl _), List.take_of_length_le (by rw [List.length_map, hML.out]; exact Nat.le_refl _)] at this
        have HG := Lib.hid G
        have u0 : wr.cell? ⟨w.heap.size, 0, none⟩ = some (.int .i64 0) := cellsOf_block P1 rfl
        have v0 : wr.cell? ⟨w.heap.size + 1, 0, none⟩ = some (.int .i64 0) := cellsOf_block P2 rfl
        have u1 : wr.cell? ⟨w.heap.size, 1, none⟩ = some (.string ⟨#[]⟩) := cellsOf_block P1 rfl
        have v1 : wr.cell? ⟨w.heap.size + 1, 1, none⟩ = some (.string ⟨#[]⟩) := cellsOf_block P2 rfl
        have u2 : wr.cell? ⟨w.heap.size, 2, none⟩ = some (.bool false) := cellsOf_block P1 rfl
        have v2 : wr.cell? ⟨w.heap.size + 1, 2, none⟩ = some (.bool false) := cellsOf_block P2 rfl
        have u3 : wr.cell? ⟨w.heap.size, 3, none⟩ = some (.string ⟨#[]⟩) := cellsOf_block P1 rfl
        have v3 : wr.cell? ⟨w.heap.size + 1, 3, none⟩ = some (.string ⟨#[]⟩) := cellsOf_block P2 rfl
        have u4 : wr.cell? ⟨w.heap.size, 4, none⟩ = some (.string ⟨#[]⟩) := cellsOf_block P1 rfl
        have v4 : wr.cell? ⟨w.heap.size + 1, 4, none⟩ = some (.string ⟨#[]⟩) := cellsOf_block P2 rfl
        have u5 : wr.cell? ⟨w.heap.size, 5, none⟩ = some (.bool false) := cellsOf_block P1 rfl
        have v5 : wr.cell? ⟨w.heap.size + 1, 5, none⟩ = some (.bool false) := cellsOf_block P2 rfl
        have u6 : wr.cell? ⟨w.heap.size, 6, none⟩ = some (.string ⟨#[]⟩) := cellsOf_block P1 rfl
        have v6 : wr.cell? ⟨w.heap.size + 1, 6, none⟩ = some (.string ⟨#[]⟩) := cellsOf_block P2 rfl
        have u7 : wr.cell? ⟨w.heap.size, 7, none⟩ = some (.string ⟨#[]⟩) := cellsOf_block P1 rfl
        have v7 : wr.cell? ⟨w.heap.size + 1, 7, none⟩ = some (.string ⟨#[]⟩) := cellsOf_block P2 rfl
        have u8 : wr.cell? ⟨w.heap.size, 8, none⟩ = some (.string ⟨#[]⟩) := cellsOf_block P1 rfl
        have v8 : wr.cell? ⟨w.heap.size + 1, 8, none⟩ = some (.string ⟨#[]⟩) := cellsOf_block P2 rfl
        have u9 : wr.cell? ⟨w.heap.size, 9, none⟩ = some (.slice A k c) := cellsOf_block P1 rfl
        have v9 : wr.cell? ⟨w.heap.size + 1, 9, none⟩ = some (.slice B k d) := cellsOf_block P2 rfl
        have u10 : wr.cell? ⟨w.heap.size, 10, none⟩ = some (.string ⟨#[]⟩) := cellsOf_block P1 rfl
        have v10 : wr.cell? ⟨w.heap.size + 1, 10, none⟩ = some (.string ⟨#[]⟩) := cellsOf_block P2 rfl
        have u11 : wr.cell? ⟨w.heap.size, 11, none⟩ = some (.string ⟨#[]⟩) := cellsOf_block P1 rfl
        have v11 : wr.cell? ⟨w.heap.size + 1, 11, none⟩ = some (.string ⟨#[]⟩) := cellsOf_block P2 rfl
        have u12 : wr.cell? ⟨w.heap.size, 12, none⟩ = some (.string ⟨#[]⟩) := cellsOf_block P1 rfl
        have v12 : wr.cell? ⟨w.heap.size + 1, 12, none⟩ = some (.string ⟨#[]⟩) := cellsOf_block P2 rfl
        have q1 : ∀ V, (binOp .eql 46 (.agg #[.string ⟨#[]⟩, .string ⟨#[]⟩, .bool false, .string ⟨#[]⟩, .string ⟨#[]⟩, .string ⟨#[]⟩]) (.agg #[.string ⟨#[]⟩, .string ⟨#[]⟩, .bool false, .string ⟨#[]⟩, .string ⟨#[]⟩, .string ⟨#[]⟩])).run Tryd.prog V = .ok (.bool true) V := fun V => (entEql Ent.zero Ent.zero V).trans (by rw [decide_eq_true rfl])
        have q2 : ∀ V, (binOp .eql 44 (.agg #[.string ⟨#[]⟩, .string ⟨#[]⟩]) (.agg #[.string ⟨#[]⟩, .string ⟨#[]⟩])).run Tryd.prog V = .ok (.bool true) V := fun V => (idEql ⟨#[]⟩ ⟨#[]⟩ ⟨#[]⟩ ⟨#[]⟩ V).trans (by rw [decide_eq_true ⟨rfl, rfl⟩])
        clear P1 P2 G
        go_wp2
        go_ret
        rw [HG.out]
        exact ⟨rfl, HBA.out⟩
  · have q0 : ((n : Int) != (m : Int)) = true := by simp; omega
    have G : decide (l.map Df.p = l2.map Df.p) = false := by
      refine decide_eq_false fun h => hne ?_
      have := congrArg List.length h
      rw [List.length_map, List.length_map, hLL.out, hML.out] at this
      exact this
    clear hne
    go_enter Tryd.func31, Tryd.ntmps31
    go_upto_region 1 with (fail)
    clear hW1 hW2 e1 e2
    go_wp2
    go_ret
    rw [G]
    exact ⟨rfl, HB2.out⟩
def zDc (l : List Df) (A : Option Addr) (c : Nat) : Dc := ⟨0, ⟨#[]⟩, false, Ent.zero, l, A, c, ⟨#[]⟩, ⟨#[]⟩, ⟨#[]⟩⟩
set_option maxRecDepth 100000 in
set_option maxHeartbeats 4000000 in
theorem defs17_any (A : Option Addr) (n c : Nat) (l : List Df) (B : Option Addr) (m d : Nat) (l2 : List Df) (w : World) (hl : DfsAt w A n l) (hm : DfsAt w B m l2) (hn : n ≤ 1048576) (hws : ∀ x ∈ l, x.p.ws.length ≤ 1048576) :
    Calls Tryd.prog 10 #[.slice A n c, .slice B m d] w (RetBB (decide (l.map Df.p = l2.map Df.p)) w) := by
  have hnl := hl.1
  subst hnl
  have HL := Lib.hid hl
  have HM := Lib.hid hm
  have HWS := Lib.hid hws
  have C := Lib.hid (show Calls Tryd.prog 30 #[.agg #[.int .i64 0, .string ⟨#[]⟩, .bool false, .string ⟨#[]⟩, .string ⟨#[]⟩, .bool false, .string ⟨#[]⟩, .string ⟨#[]⟩, .string ⟨#[]⟩, .slice A l.length c, .string ⟨#[]⟩, .string ⟨#[]⟩, .string ⟨#[]⟩]] w (TellLike (zDc l A c) w) from like_any (zDc l A c) w hl hn)
  clear hl hm hws
  go_enter Tryd.func10, Tryd.ntmps10
  go_wp2_with fail
  refine C.out.mono ?_
  rintro e w1 ⟨A1, c1, rfl, ho, hB1⟩
  have HD1 := Lib.hid (DfsAt.of_own (show w1.ownsRow w.heap.size 84 5 (.slice A1 l.length c1) l.length (dfCells l) from ho) (fun x hx => by
    obtain ⟨j, hj⟩ := List.getElem?_of_mem hx
    obtain ⟨a', x', _, hx', _, hw'⟩ := HL.out.2 j (List.getElem?_eq_some_iff.1 hj).1
    rw [hj] at hx'
    cases hx'
    exact hw'.below hB1))
  have HB1 := Lib.hid hB1
  clear C ho hB1
  obtain ⟨W2, hW2, hs2, hB2, bx2⟩ := boxWorld w1 #[.int .i64 0, .string ⟨#[]⟩, .bool false, .string ⟨#[]⟩, .string ⟨#[]⟩, .bool false, .string ⟨#[]⟩, .string ⟨#[]⟩, .string ⟨#[]⟩, .slice A1 l.length c1, .string ⟨#[]⟩, .string ⟨#[]⟩, .string ⟨#[]⟩] 54
  have HB2 := Lib.hid (HB1.out.trans (hB2.mono HB1.out.size))
  have u0 : W2.cell? ⟨w1.heap.size, 0, none⟩ = some (.int .i64 0) := cellsOf_block bx2 rfl
  have u1 : W2.cell? ⟨w1.heap.size, 1, none⟩ = some (.string ⟨#[]⟩) := cellsOf_block bx2 rfl
  have u2 : W2.cell? ⟨w1.heap.size, 2, none⟩ = some (.bool false) := cellsOf_block bx2 rfl
  have u3 : W2.cell? ⟨w1.heap.size, 3, none⟩ = some (.string ⟨#[]⟩) := cellsOf_block bx2 rfl
  have u4 : W2.cell? ⟨w1.heap.size, 4, none⟩ = some (.string ⟨#[]⟩) := cellsOf_block bx2 rfl
  have u5 : W2.cell? ⟨w1.heap.size, 5, none⟩ = some (.bool false) := cellsOf_block bx2 rfl
  have u6 : W2.cell? ⟨w1.heap.size, 6, none⟩ = some (.string ⟨#[]⟩) := cellsOf_block bx2 rfl
  have u7 : W2.cell? ⟨w1.heap.size, 7, none⟩ = some (.string ⟨#[]⟩) := cellsOf_block bx2 rfl
  have u8 : W2.cell? ⟨w1.heap.size, 8, none⟩ = some (.string ⟨#[]⟩) := cellsOf_block bx2 rfl
  have u9 : W2.cell? ⟨w1.heap.size, 9, none⟩ = some (.slice A1 l.length c1) := cellsOf_block bx2 rfl
  have u10 : W2.cell? ⟨w1.heap.size, 10, none⟩ = some (.string ⟨#[]⟩) := cellsOf_block bx2 rfl
  have u11 : W2.cell? ⟨w1.heap.size, 11, none⟩ = some (.string ⟨#[]⟩) := cellsOf_block bx2 rfl
  have u12 : W2.cell? ⟨w1.heap.size, 12, none⟩ = some (.string ⟨#[]⟩) := cellsOf_block bx2 rfl
  have C := Lib.hid (show Calls Tryd.prog 31 #[.agg #[.int .i64 0, .string ⟨#[]⟩, .bool false, .string ⟨#[]⟩, .string ⟨#[]⟩, .bool false, .string ⟨#[]⟩, .string ⟨#[]⟩, .string ⟨#[]⟩, .slice A1 l.length c1, .string ⟨#[]⟩, .string ⟨#[]⟩, .string ⟨#[]⟩], .agg #[.int .i64 0, .string ⟨#[]⟩, .bool false, .string ⟨#[]⟩, .string ⟨#[]⟩, .bool false, .string ⟨#[]⟩, .string ⟨#[]⟩, .string ⟨#[]⟩, .slice B m d, .string ⟨#[]⟩, .string ⟨#[]⟩, .string ⟨#[]⟩]] W2 (RetBB (decide (l.map Df.p = l2.map Df.p)) W2) from same16_any A1 l.length c1 l B m d l2 W2 (DfsAt.below (w := w1) HD1.out hB2) (DfsAt.below (w := w) HM.out HB2.out) hn HWS.out)
  clear bx2 hs2 hB2
  dsimp only [zDc, Dc.v, Dc.cells, Ent.zero]
  have HW2 := Lib.hid hW2
  clear hW2
  go_upto_region 2 with (fail)
  rw [HW2.out]
  clear HW2
  go_wp2_with fail
  refine C.out.mono ?_
  rintro e w3 ⟨rfl, hB3⟩
  have HB3 := Lib.hid (HB2.out.trans (hB3.mono HB2.out.size))
  clear C hB3
  go_wp2
  go_ret
  exact ⟨rfl, HB3.out⟩
end Go.Proofs.YtapjmfgpdkghlaaDoor
