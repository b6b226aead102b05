/- narthexlaw16.Give, Like: a declaration as the program's, as the document's. Conditions: at most 2^20 attributes. Printed by gen-dtgive.py. -/
import Derived.Test.YtapjmfgpdkghlaaDoorDtRefL
namespace Go.Proofs.YtapjmfgpdkghlaaDoor
open Go.RowKit Go.Maps
set_option linter.unusedVariables false
set_option linter.unusedSimpArgs false
def TellGive (d : Dc) (w : World) (e : Ending) (w' : World) : Prop := ∃ (A : Option Addr) (c : Nat), e = .returned ({ d with A := A, c := c }.v) ∧ w'.ownsRow w.heap.size 82 5 (.slice A d.ds.length c) d.ds.length (dfCells d.ds) ∧ Below w.heap.size w w'
set_option maxRecDepth 100000 in
set_option maxHeartbeats 16000000 in
theorem give_any (d : Dc) (w : World) (h : DfsAt w d.A d.ds.length d.ds) (hn : d.ds.length ≤ 1048576) : Calls Tryd.prog 27 #[d.v] w (TellGive d w) := by
  obtain ⟨i0, hi0, hz0, hz1, hz2⟩ := info_partsD Tryd.infoDDf
  obtain ⟨ki, na, pm, ⟨ena, etx, eout, epu, esy, eno⟩, ds, A, c, pu, sy, tx⟩ := d
  dsimp only at h hn
  obtain ⟨W1, hW1, hs1, hB1, bx1⟩ := boxWorld w #[.int .i64 ki, .string na, .bool pm, .string ena, .string etx, .bool eout, .string epu, .string esy, .string eno, .slice A ds.length c, .string pu, .string sy, .string tx] 54
  obtain ⟨W2, hW2, hs2, hB2, bx2⟩ := boxWorld W1 #[.int .i64 0, .string ⟨#[]⟩, .bool false, .string ⟨#[]⟩, .string ⟨#[]⟩, .bool false, .string ⟨#[]⟩, .string ⟨#[]⟩, .string ⟨#[]⟩, .slice none 0 0, .string ⟨#[]⟩, .string ⟨#[]⟩, .string ⟨#[]⟩] 59
  obtain ⟨W3, hW3, hs3, hB3, bx3⟩ := boxWorld W2 #[.int .i64 ki, .string na, .bool pm, .string ena, .string etx, .bool eout, .string epu, .string esy, .string eno, .slice none 0 0, .string pu, .string sy, .string tx] 59
  have e1 : W1.heap.size = w.heap.size + 1 := hs1
  have e2 : W2.heap.size = w.heap.size + 2 := by omega
  have e3 : W3.heap.size = w.heap.size + 3 := by omega
  rw [e1] at bx2
  rw [e2] at bx3
  have P1 := (hB2.block w.heap.size (by omega)).trans bx1
  have P3 := (hB3.block w.heap.size (by omega)).trans P1
  have R3 := (hB3.block (w.heap.size + 1) (by omega)).trans bx2
  have HB3 := Lib.hid (hB1.trans ((hB2.trans (hB3.mono hB2.size)).mono hB1.size))
  have DS := Lib.hid h
  have PB1 := Lib.hid bx1
  have p0 : W1.cell? ⟨w.heap.size, 0, none⟩ = some (.int .i64 ki) := cellsOf_block PB1.out rfl
  have r0 : W2.cell? ⟨w.heap.size, 0, none⟩ = some (.int .i64 ki) := (hB2.cell (p := ⟨w.heap.size, 0, none⟩) (show w.heap.size < W1.heap.size by omega)).trans p0
  have p1 : W1.cell? ⟨w.heap.size, 1, none⟩ = some (.string na) := cellsOf_block PB1.out rfl
  have r1 : W2.cell? ⟨w.heap.size, 1, none⟩ = some (.string na) := (hB2.cell (p := ⟨w.heap.size, 1, none⟩) (show w.heap.size < W1.heap.size by omega)).trans p1
  have p2 : W1.cell? ⟨w.heap.size, 2, none⟩ = some (.bool pm) := cellsOf_block PB1.out rfl
  have r2 : W2.cell? ⟨w.heap.size, 2, none⟩ = some (.bool pm) := (hB2.cell (p := ⟨w.heap.size, 2, none⟩) (show w.heap.size < W1.heap.size by omega)).trans p2
  have p3 : W1.cell? ⟨w.heap.size, 3, none⟩ = some (.string ena) := cellsOf_block PB1.out rfl
  have r3 : W2.cell? ⟨w.heap.size, 3, none⟩ = some (.string ena) := (hB2.cell (p := ⟨w.heap.size, 3, none⟩) (show w.heap.size < W1.heap.size by omega)).trans p3
  have p4 : W1.cell? ⟨w.heap.size, 4, none⟩ = some (.string etx) := cellsOf_block PB1.out rfl
  have r4 : W2.cell? ⟨w.heap.size, 4, none⟩ = some (.string etx) := (hB2.cell (p := ⟨w.heap.size, 4, none⟩) (show w.heap.size < W1.heap.size by omega)).trans p4
  have p5 : W1.cell? ⟨w.heap.size, 5, none⟩ = some (.bool eout) := cellsOf_block PB1.out rfl
  have r5 : W2.cell? ⟨w.heap.size, 5, none⟩ = some (.bool eout) := (hB2.cell (p := ⟨w.heap.size, 5, none⟩) (show w.heap.size < W1.heap.size by omega)).trans p5
  have p6 : W1.cell? ⟨w.heap.size, 6, none⟩ = some (.string epu) := cellsOf_block PB1.out rfl
  have r6 : W2.cell? ⟨w.heap.size, 6, none⟩ = some (.string epu) := (hB2.cell (p := ⟨w.heap.size, 6, none⟩) (show w.heap.size < W1.heap.size by omega)).trans p6
  have p7 : W1.cell? ⟨w.heap.size, 7, none⟩ = some (.string esy) := cellsOf_block PB1.out rfl
  have r7 : W2.cell? ⟨w.heap.size, 7, none⟩ = some (.string esy) := (hB2.cell (p := ⟨w.heap.size, 7, none⟩) (show w.heap.size < W1.heap.size by omega)).trans p7
  have p8 : W1.cell? ⟨w.heap.size, 8, none⟩ = some (.string eno) := cellsOf_block PB1.out rfl
  have r8 : W2.cell? ⟨w.heap.size, 8, none⟩ = some (.string eno) := (hB2.cell (p := ⟨w.heap.size, 8, none⟩) (show w.heap.size < W1.heap.size by omega)).trans p8
  have p9 : W1.cell? ⟨w.heap.size, 9, none⟩ = some (.slice A ds.length c) := cellsOf_block PB1.out rfl
  have r9 : W2.cell? ⟨w.heap.size, 9, none⟩ = some (.slice A ds.length c) := (hB2.cell (p := ⟨w.heap.size, 9, none⟩) (show w.heap.size < W1.heap.size by omega)).trans p9
  have p10 : W1.cell? ⟨w.heap.size, 10, none⟩ = some (.string pu) := cellsOf_block PB1.out rfl
  have r10 : W2.cell? ⟨w.heap.size, 10, none⟩ = some (.string pu) := (hB2.cell (p := ⟨w.heap.size, 10, none⟩) (show w.heap.size < W1.heap.size by omega)).trans p10
  have p11 : W1.cell? ⟨w.heap.size, 11, none⟩ = some (.string sy) := cellsOf_block PB1.out rfl
  have r11 : W2.cell? ⟨w.heap.size, 11, none⟩ = some (.string sy) := (hB2.cell (p := ⟨w.heap.size, 11, none⟩) (show w.heap.size < W1.heap.size by omega)).trans p11
  have p12 : W1.cell? ⟨w.heap.size, 12, none⟩ = some (.string tx) := cellsOf_block PB1.out rfl
  have r12 : W2.cell? ⟨w.heap.size, 12, none⟩ = some (.string tx) := (hB2.cell (p := ⟨w.heap.size, 12, none⟩) (show w.heap.size < W1.heap.size by omega)).trans p12
  have PB3 := Lib.hid P3
  have RB3 := Lib.hid R3
  have XB3 := Lib.hid bx3
  have E3 := Lib.hid e3
  show Calls _ _ #[.agg #[.int .i64 ki, .string na, .bool pm, .string ena, .string etx, .bool eout, .string epu, .string esy, .string eno, .slice A ds.length c, .string pu, .string sy, .string tx]] _ _
  generalize hds : ds.length = n at *
  have HDS := Lib.hid hds
  clear h hB1 hB2 hB3 bx1 bx2 bx3 P1 P3 R3 hds hs1 hs2 hs3
  go_enter Tryd.func27, Tryd.ntmps27
  go_upto_region 2 with (fail)
  clear hW1 hW2 hW3 e1 e2 e3 p0 r0 p1 r1 p2 r2 p3 r3 p4 r4 p5 r5 p6 r6 p7 r7 p8 r8 p9 r9 p10 r10 p11 r11 p12 r12
  go_wp2
  go_loopw [4] (fun i wr => ∃ (k : Nat) (v : Value), k ≤ n ∧ i = .int .i64 k ∧ Hid (wr.heap[w.heap.size + 2]? = some (.cells #[.int .i64 ki, .string na, .bool pm, .string ena, .string etx, .bool eout, .string epu, .string esy, .string eno, v, .string pu, .string sy, .string tx] 59 (0, 0))) ∧ Hid (wr.ownsRow (w.heap.size + 3) 82 5 v k (dfCells (ds.take k))) ∧ Hid (KeepG W3 wr (fun j => j = w.heap.size + 2))) (fun i _ => n - (intOf i).toNat)
  case atStart => exact ⟨0, _, by omega, rfl, XB3, World.ownsRow_nil _ _ _ _, KeepG.of_below (Below.refl _ _) _⟩
  case round =>
    obtain ⟨k, v, hk, rfl, HX, HO, HK⟩ := hrel
    have kp := (HK.out.block w.heap.size (by have := E3.out; omega) (by omega)).trans PB3.out
    have y9 : wr.cell? ⟨w.heap.size, 9, none⟩ = some (.slice A n c) := cellsOf_block kp rfl
    have z3 : W3.heap.size ≤ wr.heap.size := HK.out.size
    have HBW := Lib.hid (HB3.out.trans (show Below w.heap.size W3 wr from HK.out.below (by have := E3.out; omega) (fun j hj => by omega)))
    by_cases hlt : k < n
    · obtain ⟨a, x, rfl, hx, gx, _⟩ := DS.out.2 k hlt
      have gx := gx.same (w' := wr) HBW.out.size (HBW.out.block _ gx.lt)
      obtain ⟨_, g0, g1, g2, g3, g4⟩ := gx
      have b0 : (0 : Int) ≤ (k : Int) := by omega
      have b1 : (k : Int) < (n : Int) := by omega
      obtain ⟨W5, hW5, hs5, hB5, bx5⟩ := boxWorld wr #[.string x.p.na, .int .i64 x.p.ki, .slice x.A x.p.ws.length x.c, .int .i64 x.p.mo, .string x.p.va] 84
      have q0 := cellsOf_block bx5 (j := 0) rfl
      have q1 := cellsOf_block bx5 (j := 1) rfl
      have q2 := cellsOf_block bx5 (j := 2) rfl
      have q3 := cellsOf_block bx5 (j := 3) rfl
      have q4 := cellsOf_block bx5 (j := 4) rfl
      have hX5 := (hB5.block (w.heap.size + 2) (by have := E3.out; omega)).trans HX.out
      have x9 : W5.cell? ⟨w.heap.size + 2, 9, none⟩ = some v := cellsOf_block hX5 rfl
      have HX5 := Lib.hid hX5
      have HO5 := Lib.hid (own_belowD HO.out hB5)
      have HK5 := Lib.hid (HK.out.trans (KeepG.of_below hB5 _))
      have z5 : wr.heap.size ≤ W5.heap.size := hB5.size
      have HT := Lib.hid (show dfCells (ds.take (k + 1)) = dfCells (ds.take k) ++ [.string x.p.na, .int .i64 x.p.ki, .slice x.A x.p.ws.length x.c, .int .i64 x.p.mo, .string x.p.va] by rw [List.take_add_one, hx, dfCells_snoc]; rfl)
      clear kp hx bx5 hB5 hs5 hX5 HO HX
      go_upto_region 6 with (fail)
      clear hW5
      go_wp2_with (at_builtin; refine wpList_append_own_at _ rfl (.tmp 32) (.tmp 44) 31 rfl (w.heap.size + 3) 82 i0 _ 5 72 Tryd.underlying31 hi0 hz0 hz1 hz2 rfl (by decide) _ _ _ rfl (HO5.out.alloc _) ⟨W5.heap.size, 0, none⟩ 1 1 [.string x.p.na, .int .i64 x.p.ki, .slice x.A x.p.ws.length x.c, .int .i64 x.p.mo, .string x.p.va] rfl rfl (litCells _ _ _) ?k2 ?k3 ?k4 ?k5 ?_)
      case k2 => intro u hu
                 simp only [List.mem_cons, List.not_mem_nil, or_false] at hu
                 rcases hu with rfl | rfl | rfl | rfl | rfl <;> rfl
      case k3 => unfold maxLen; omega
      case k4 => omega
      case k5 => have := E3.out; simp; omega
      intro o' w7 hown' hgrow _ hblk
      obtain ⟨A7, c7, ho7, _⟩ := own_shapeD hown'
      subst ho7
      have hXv : v.ownBlock ≠ some (w.heap.size + 2) := fun e => by have := (HO5.out.lt _ e).1; omega
      have hX7 := (hgrow.block (w.heap.size + 2) (by have := E3.out; simp; omega) (fun e => hXv e.symm)).trans (((Below.refl W5.heap.size W5).alloc (Nat.le_refl _) (.cells #[.string x.p.na, .int .i64 x.p.ki, .slice x.A x.p.ws.length x.c, .int .i64 x.p.mo, .string x.p.va] 82)).block (w.heap.size + 2) (by have := E3.out; omega) |>.trans HX5.out)
      have m9 := Lib.frozen_of_heap hX7 9
      have x9' : w7.cell? ⟨w.heap.size + 2, 9, none⟩ = some v := cellsOf_block hX7 rfl
      have HX7 := Lib.hid hX7
      have HO7 : Hid (w7.ownsRow (w.heap.size + 3) 82 5 (.slice A7 (k + 1) c7) (k + 1) (dfCells (ds.take (k + 1)))) := by
        show w7.ownsRow _ _ _ _ _ _
        rw [HT.out]; exact hown'
      have HK6 := Lib.hid (HK5.out.trans' (KeepG.of_below ((Below.refl W5.heap.size W5).alloc (Nat.le_refl _) (.cells #[.string x.p.na, .int .i64 x.p.ki, .slice x.A x.p.ws.length x.c, .int .i64 x.p.mo, .string x.p.va] 82)) (fun _ => False)) (fun j hj _ => hj.elim))
      have HK7 := Lib.hid (HK6.out.trans' (KeepG.of_grown hgrow (fun j => v.ownBlock = some j) (fun j hj _ => hj)) (fun j hj hl => by have := (HO5.out.lt _ hj).1; have := E3.out; omega))
      have HX8 := Lib.hid (show (w7.setCell ⟨w.heap.size + 2, 9, none⟩ (.slice A7 (k + 1) c7)).heap[w.heap.size + 2]? = some (.cells #[.int .i64 ki, .string na, .bool pm, .string ena, .string etx, .bool eout, .string epu, .string esy, .string eno, .slice A7 (k + 1) c7, .string pu, .string sy, .string tx] 59 (0, 0)) by simpa using Go.Joins.block_setCell HX7.out (.slice A7 (k + 1) c7) (i := 9))
      have HO8 := Lib.hid (show (w7.setCell ⟨w.heap.size + 2, 9, none⟩ (.slice A7 (k + 1) c7)).ownsRow (w.heap.size + 3) 82 5 (.slice A7 (k + 1) c7) (k + 1) (dfCells (ds.take (k + 1))) from ownsRow_setCell_other HO7.out (fun e => by have h := (HO7.out.lt _ e).1; (try dsimp only at h); omega) _)
      have HK8 := Lib.hid (HK7.out.set (b := w.heap.size + 2) (i := 9) (u := (.slice A7 (k + 1) c7)) (.inr rfl))
      clear hown' hgrow hblk hX7 hXv HO5 HX5 HK5 HK6 HK7 HX7
      go_wp2
      go_roundw
      case rel => exact ⟨k + 1, .slice A7 (k + 1) c7, by omega, by go_num, HX8, HO8, HK8⟩
      case measure => simp [intOf]; omega
    · obtain rfl : k = n := by omega
      have rb := (HK.out.block (w.heap.size + 1) (by have := E3.out; omega) (by omega)).trans RB3.out
      obtain ⟨A9, c9, hv, _⟩ := own_shapeD HO.out
      subst hv
      have xb := HX.out
      have x0 : wr.cell? ⟨w.heap.size + 2, 0, none⟩ = some (.int .i64 ki) := cellsOf_block xb rfl
      have x1 : wr.cell? ⟨w.heap.size + 2, 1, none⟩ = some (.string na) := cellsOf_block xb rfl
      have x2 : wr.cell? ⟨w.heap.size + 2, 2, none⟩ = some (.bool pm) := cellsOf_block xb rfl
      have x3 : wr.cell? ⟨w.heap.size + 2, 3, none⟩ = some (.string ena) := cellsOf_block xb rfl
      have x4 : wr.cell? ⟨w.heap.size + 2, 4, none⟩ = some (.string etx) := cellsOf_block xb rfl
      have x5 : wr.cell? ⟨w.heap.size + 2, 5, none⟩ = some (.bool eout) := cellsOf_block xb rfl
      have x6 : wr.cell? ⟨w.heap.size + 2, 6, none⟩ = some (.string epu) := cellsOf_block xb rfl
      have x7 : wr.cell? ⟨w.heap.size + 2, 7, none⟩ = some (.string esy) := cellsOf_block xb rfl
      have x8 : wr.cell? ⟨w.heap.size + 2, 8, none⟩ = some (.string eno) := cellsOf_block xb rfl
      have x9 : wr.cell? ⟨w.heap.size + 2, 9, none⟩ = some (.slice A9 k c9) := cellsOf_block xb rfl
      have x10 : wr.cell? ⟨w.heap.size + 2, 10, none⟩ = some (.string pu) := cellsOf_block xb rfl
      have x11 : wr.cell? ⟨w.heap.size + 2, 11, none⟩ = some (.string sy) := cellsOf_block xb rfl
      have x12 : wr.cell? ⟨w.heap.size + 2, 12, none⟩ = some (.string tx) := cellsOf_block xb rfl
      have m0 := Lib.frozen_of_heap rb 0
      have v0 : wr.cell? ⟨w.heap.size + 1, 0, none⟩ = some (.int .i64 0) := cellsOf_block rb rfl
      have m1 := Lib.frozen_of_heap rb 1
      have v1 : wr.cell? ⟨w.heap.size + 1, 1, none⟩ = some (.string ⟨#[]⟩) := cellsOf_block rb rfl
      have m2 := Lib.frozen_of_heap rb 2
      have v2 : wr.cell? ⟨w.heap.size + 1, 2, none⟩ = some (.bool false) := cellsOf_block rb rfl
      have m3 := Lib.frozen_of_heap rb 3
      have v3 : wr.cell? ⟨w.heap.size + 1, 3, none⟩ = some (.string ⟨#[]⟩) := cellsOf_block rb rfl
      have m4 := Lib.frozen_of_heap rb 4
      have v4 : wr.cell? ⟨w.heap.size + 1, 4, none⟩ = some (.string ⟨#[]⟩) := cellsOf_block rb rfl
      have m5 := Lib.frozen_of_heap rb 5
      have v5 : wr.cell? ⟨w.heap.size + 1, 5, none⟩ = some (.bool false) := cellsOf_block rb rfl
      have m6 := Lib.frozen_of_heap rb 6
      have v6 : wr.cell? ⟨w.heap.size + 1, 6, none⟩ = some (.string ⟨#[]⟩) := cellsOf_block rb rfl
      have m7 := Lib.frozen_of_heap rb 7
      have v7 : wr.cell? ⟨w.heap.size + 1, 7, none⟩ = some (.string ⟨#[]⟩) := cellsOf_block rb rfl
      have m8 := Lib.frozen_of_heap rb 8
      have v8 : wr.cell? ⟨w.heap.size + 1, 8, none⟩ = some (.string ⟨#[]⟩) := cellsOf_block rb rfl
      have m9 := Lib.frozen_of_heap rb 9
      have v9 : wr.cell? ⟨w.heap.size + 1, 9, none⟩ = some (.slice none 0 0) := cellsOf_block rb rfl
      have m10 := Lib.frozen_of_heap rb 10
      have v10 : wr.cell? ⟨w.heap.size + 1, 10, none⟩ = some (.string ⟨#[]⟩) := cellsOf_block rb rfl
      have m11 := Lib.frozen_of_heap rb 11
      have v11 : wr.cell? ⟨w.heap.size + 1, 11, none⟩ = some (.string ⟨#[]⟩) := cellsOf_block rb rfl
      have m12 := Lib.frozen_of_heap rb 12
      have v12 : wr.cell? ⟨w.heap.size + 1, 12, none⟩ = some (.string ⟨#[]⟩) := cellsOf_block rb rfl
      have RB := Lib.hid rb
      have HT : ds.take k = ds := List.take_of_length_le (by have := HDS.out; omega)
      have ho := HO.out
      rw [HT] at ho
      have HO2 := Lib.hid ho
      have HBE := Lib.hid (HB3.out.trans (show Below w.heap.size W3 wr from HK.out.below (by have := E3.out; omega) (fun j hj => by omega)))
      clear kp rb xb HT ho HO HX
      go_wp2
      have hV : ((((((((((((((wr.setCell ⟨w.heap.size + 1, 0, none⟩ (.int .i64 ki)).setCell ⟨w.heap.size + 1, 1, none⟩ (.string na)).setCell ⟨w.heap.size + 1, 2, none⟩ (.bool pm)).setCell ⟨w.heap.size + 1, 3, none⟩ (.string ena)).setCell ⟨w.heap.size + 1, 4, none⟩ (.string etx)).setCell ⟨w.heap.size + 1, 5, none⟩ (.bool eout)).setCell ⟨w.heap.size + 1, 6, none⟩ (.string epu)).setCell ⟨w.heap.size + 1, 7, none⟩ (.string esy)).setCell ⟨w.heap.size + 1, 8, none⟩ (.string eno)).setCell ⟨w.heap.size + 1, 9, none⟩ (.slice A9 k c9)).setCell ⟨w.heap.size + 1, 10, none⟩ (.string pu)).setCell ⟨w.heap.size + 1, 11, none⟩ (.string sy)).setCell ⟨w.heap.size + 1, 12, none⟩ (.string tx))).heap[w.heap.size + 1]? = some (.cells #[.int .i64 ki, .string na, .bool pm, .string ena, .string etx, .bool eout, .string epu, .string esy, .string eno, .slice A9 k c9, .string pu, .string sy, .string tx] 59 (0, 0)) := by simpa using (Go.Joins.block_setCell (Go.Joins.block_setCell (Go.Joins.block_setCell (Go.Joins.block_setCell (Go.Joins.block_setCell (Go.Joins.block_setCell (Go.Joins.block_setCell (Go.Joins.block_setCell (Go.Joins.block_setCell (Go.Joins.block_setCell (Go.Joins.block_setCell (Go.Joins.block_setCell (Go.Joins.block_setCell RB.out (.int .i64 ki) (i := 0)) (.string na) (i := 1)) (.bool pm) (i := 2)) (.string ena) (i := 3)) (.string etx) (i := 4)) (.bool eout) (i := 5)) (.string epu) (i := 6)) (.string esy) (i := 7)) (.string eno) (i := 8)) (.slice A9 k c9) (i := 9)) (.string pu) (i := 10)) (.string sy) (i := 11)) (.string tx) (i := 12))
      have hE : Below w.heap.size w ((((((((((((((wr.setCell ⟨w.heap.size + 1, 0, none⟩ (.int .i64 ki)).setCell ⟨w.heap.size + 1, 1, none⟩ (.string na)).setCell ⟨w.heap.size + 1, 2, none⟩ (.bool pm)).setCell ⟨w.heap.size + 1, 3, none⟩ (.string ena)).setCell ⟨w.heap.size + 1, 4, none⟩ (.string etx)).setCell ⟨w.heap.size + 1, 5, none⟩ (.bool eout)).setCell ⟨w.heap.size + 1, 6, none⟩ (.string epu)).setCell ⟨w.heap.size + 1, 7, none⟩ (.string esy)).setCell ⟨w.heap.size + 1, 8, none⟩ (.string eno)).setCell ⟨w.heap.size + 1, 9, none⟩ (.slice A9 k c9)).setCell ⟨w.heap.size + 1, 10, none⟩ (.string pu)).setCell ⟨w.heap.size + 1, 11, none⟩ (.string sy)).setCell ⟨w.heap.size + 1, 12, none⟩ (.string tx))) := (((((((((((((HBE.out.setCell (p := ⟨w.heap.size + 1, 0, none⟩) (Nat.le_succ _) (.int .i64 ki)).setCell (p := ⟨w.heap.size + 1, 1, none⟩) (Nat.le_succ _) (.string na)).setCell (p := ⟨w.heap.size + 1, 2, none⟩) (Nat.le_succ _) (.bool pm)).setCell (p := ⟨w.heap.size + 1, 3, none⟩) (Nat.le_succ _) (.string ena)).setCell (p := ⟨w.heap.size + 1, 4, none⟩) (Nat.le_succ _) (.string etx)).setCell (p := ⟨w.heap.size + 1, 5, none⟩) (Nat.le_succ _) (.bool eout)).setCell (p := ⟨w.heap.size + 1, 6, none⟩) (Nat.le_succ _) (.string epu)).setCell (p := ⟨w.heap.size + 1, 7, none⟩) (Nat.le_succ _) (.string esy)).setCell (p := ⟨w.heap.size + 1, 8, none⟩) (Nat.le_succ _) (.string eno)).setCell (p := ⟨w.heap.size + 1, 9, none⟩) (Nat.le_succ _) (.slice A9 k c9)).setCell (p := ⟨w.heap.size + 1, 10, none⟩) (Nat.le_succ _) (.string pu)).setCell (p := ⟨w.heap.size + 1, 11, none⟩) (Nat.le_succ _) (.string sy)).setCell (p := ⟨w.heap.size + 1, 12, none⟩) (Nat.le_succ _) (.string tx))
      have hO : ((((((((((((((wr.setCell ⟨w.heap.size + 1, 0, none⟩ (.int .i64 ki)).setCell ⟨w.heap.size + 1, 1, none⟩ (.string na)).setCell ⟨w.heap.size + 1, 2, none⟩ (.bool pm)).setCell ⟨w.heap.size + 1, 3, none⟩ (.string ena)).setCell ⟨w.heap.size + 1, 4, none⟩ (.string etx)).setCell ⟨w.heap.size + 1, 5, none⟩ (.bool eout)).setCell ⟨w.heap.size + 1, 6, none⟩ (.string epu)).setCell ⟨w.heap.size + 1, 7, none⟩ (.string esy)).setCell ⟨w.heap.size + 1, 8, none⟩ (.string eno)).setCell ⟨w.heap.size + 1, 9, none⟩ (.slice A9 k c9)).setCell ⟨w.heap.size + 1, 10, none⟩ (.string pu)).setCell ⟨w.heap.size + 1, 11, none⟩ (.string sy)).setCell ⟨w.heap.size + 1, 12, none⟩ (.string tx))).ownsRow (w.heap.size + 3) 82 5 (.slice A9 k c9) k (dfCells ds) := (ownsRow_setCell_other (ownsRow_setCell_other (ownsRow_setCell_other (ownsRow_setCell_other (ownsRow_setCell_other (ownsRow_setCell_other (ownsRow_setCell_other (ownsRow_setCell_other (ownsRow_setCell_other (ownsRow_setCell_other (ownsRow_setCell_other (ownsRow_setCell_other (ownsRow_setCell_other HO2.out (fun e => by have := (HO2.out.lt _ e).1; dsimp only at this; omega) _) (fun e => by have := (HO2.out.lt _ e).1; dsimp only at this; omega) _) (fun e => by have := (HO2.out.lt _ e).1; dsimp only at this; omega) _) (fun e => by have := (HO2.out.lt _ e).1; dsimp only at this; omega) _) (fun e => by have := (HO2.out.lt _ e).1; dsimp only at this; omega) _) (fun e => by have := (HO2.out.lt _ e).1; dsimp only at this; omega) _) (fun e => by have := (HO2.out.lt _ e).1; dsimp only at this; omega) _) (fun e => by have := (HO2.out.lt _ e).1; dsimp only at this; omega) _) (fun e => by have := (HO2.out.lt _ e).1; dsimp only at this; omega) _) (fun e => by have := (HO2.out.lt _ e).1; dsimp only at this; omega) _) (fun e => by have := (HO2.out.lt _ e).1; dsimp only at this; omega) _) (fun e => by have := (HO2.out.lt _ e).1; dsimp only at this; omega) _) (fun e => by have := (HO2.out.lt _ e).1; dsimp only at this; omega) _)
      generalize (((((((((((((wr.setCell ⟨w.heap.size + 1, 0, none⟩ (.int .i64 ki)).setCell ⟨w.heap.size + 1, 1, none⟩ (.string na)).setCell ⟨w.heap.size + 1, 2, none⟩ (.bool pm)).setCell ⟨w.heap.size + 1, 3, none⟩ (.string ena)).setCell ⟨w.heap.size + 1, 4, none⟩ (.string etx)).setCell ⟨w.heap.size + 1, 5, none⟩ (.bool eout)).setCell ⟨w.heap.size + 1, 6, none⟩ (.string epu)).setCell ⟨w.heap.size + 1, 7, none⟩ (.string esy)).setCell ⟨w.heap.size + 1, 8, none⟩ (.string eno)).setCell ⟨w.heap.size + 1, 9, none⟩ (.slice A9 k c9)).setCell ⟨w.heap.size + 1, 10, none⟩ (.string pu)).setCell ⟨w.heap.size + 1, 11, none⟩ (.string sy)).setCell ⟨w.heap.size + 1, 12, none⟩ (.string tx)) = V at hV hE hO ⊢
      have d0 : V.cell? ⟨w.heap.size + 1, 0, none⟩ = some (.int .i64 ki) := cellsOf_block hV rfl
      have d1 : V.cell? ⟨w.heap.size + 1, 1, none⟩ = some (.string na) := cellsOf_block hV rfl
      have d2 : V.cell? ⟨w.heap.size + 1, 2, none⟩ = some (.bool pm) := cellsOf_block hV rfl
      have d3 : V.cell? ⟨w.heap.size + 1, 3, none⟩ = some (.string ena) := cellsOf_block hV rfl
      have d4 : V.cell? ⟨w.heap.size + 1, 4, none⟩ = some (.string etx) := cellsOf_block hV rfl
      have d5 : V.cell? ⟨w.heap.size + 1, 5, none⟩ = some (.bool eout) := cellsOf_block hV rfl
      have d6 : V.cell? ⟨w.heap.size + 1, 6, none⟩ = some (.string epu) := cellsOf_block hV rfl
      have d7 : V.cell? ⟨w.heap.size + 1, 7, none⟩ = some (.string esy) := cellsOf_block hV rfl
      have d8 : V.cell? ⟨w.heap.size + 1, 8, none⟩ = some (.string eno) := cellsOf_block hV rfl
      have d9 : V.cell? ⟨w.heap.size + 1, 9, none⟩ = some (.slice A9 k c9) := cellsOf_block hV rfl
      have d10 : V.cell? ⟨w.heap.size + 1, 10, none⟩ = some (.string pu) := cellsOf_block hV rfl
      have d11 : V.cell? ⟨w.heap.size + 1, 11, none⟩ = some (.string sy) := cellsOf_block hV rfl
      have d12 : V.cell? ⟨w.heap.size + 1, 12, none⟩ = some (.string tx) := cellsOf_block hV rfl
      refine bodyPost_ret (v := .agg #[.int .i64 ki, .string na, .bool pm, .string ena, .string etx, .bool eout, .string epu, .string esy, .string eno, .slice A9 k c9, .string pu, .string sy, .string tx]) (by simp [results, Tryd.results27, go_sem, d0, d1, d2, d3, d4, d5, d6, d7, d8, d9, d10, d11, d12]) rfl ?_
      refine ⟨A9, c9, ?_, ?_, hE⟩
      · show Ending.returned _ = Ending.returned (.agg #[.int .i64 ki, .string na, .bool pm, .string ena, .string etx, .bool eout, .string epu, .string esy, .string eno, .slice A9 ds.length c9, .string pu, .string sy, .string tx])
        rw [HDS.out]
      · show V.ownsRow _ _ _ (.slice A9 ds.length c9) ds.length _
        rw [HDS.out]
        exact own_lowerD hO (by omega)
def TellLike (d : Dc) (w : World) (e : Ending) (w' : World) : Prop := ∃ (A : Option Addr) (c : Nat), e = .returned ({ d with A := A, c := c }.v) ∧ w'.ownsRow w.heap.size 84 5 (.slice A d.ds.length c) d.ds.length (dfCells d.ds) ∧ Below w.heap.size w w'
set_option maxRecDepth 100000 in
set_option maxHeartbeats 16000000 in
theorem like_any (d : Dc) (w : World) (h : DfsAt w d.A d.ds.length d.ds) (hn : d.ds.length ≤ 1048576) : Calls Tryd.prog 30 #[d.v] w (TellLike d w) := by
  obtain ⟨i0, hi0, hz0, hz1, hz2⟩ := info_partsD Tryd.infoDRf
  obtain ⟨ki, na, pm, ⟨ena, etx, eout, epu, esy, eno⟩, ds, A, c, pu, sy, tx⟩ := d
  dsimp only at h hn
  obtain ⟨W1, hW1, hs1, hB1, bx1⟩ := boxWorld w #[.int .i64 ki, .string na, .bool pm, .string ena, .string etx, .bool eout, .string epu, .string esy, .string eno, .slice A ds.length c, .string pu, .string sy, .string tx] 59
  obtain ⟨W2, hW2, hs2, hB2, bx2⟩ := boxWorld W1 #[.int .i64 0, .string ⟨#[]⟩, .bool false, .string ⟨#[]⟩, .string ⟨#[]⟩, .bool false, .string ⟨#[]⟩, .string ⟨#[]⟩, .string ⟨#[]⟩, .slice none 0 0, .string ⟨#[]⟩, .string ⟨#[]⟩, .string ⟨#[]⟩] 54
  obtain ⟨W3, hW3, hs3, hB3, bx3⟩ := boxWorld W2 #[.int .i64 ki, .string na, .bool pm, .string ena, .string etx, .bool eout, .string epu, .string esy, .string eno, .slice none 0 0, .string pu, .string sy, .string tx] 54
  have e1 : W1.heap.size = w.heap.size + 1 := hs1
  have e2 : W2.heap.size = w.heap.size + 2 := by omega
  have e3 : W3.heap.size = w.heap.size + 3 := by omega
  rw [e1] at bx2
  rw [e2] at bx3
  have P1 := (hB2.block w.heap.size (by omega)).trans bx1
  have P3 := (hB3.block w.heap.size (by omega)).trans P1
  have R3 := (hB3.block (w.heap.size + 1) (by omega)).trans bx2
  have HB3 := Lib.hid (hB1.trans ((hB2.trans (hB3.mono hB2.size)).mono hB1.size))
  have DS := Lib.hid h
  have PB1 := Lib.hid bx1
  have p0 : W1.cell? ⟨w.heap.size, 0, none⟩ = some (.int .i64 ki) := cellsOf_block PB1.out rfl
  have r0 : W2.cell? ⟨w.heap.size, 0, none⟩ = some (.int .i64 ki) := (hB2.cell (p := ⟨w.heap.size, 0, none⟩) (show w.heap.size < W1.heap.size by omega)).trans p0
  have p1 : W1.cell? ⟨w.heap.size, 1, none⟩ = some (.string na) := cellsOf_block PB1.out rfl
  have r1 : W2.cell? ⟨w.heap.size, 1, none⟩ = some (.string na) := (hB2.cell (p := ⟨w.heap.size, 1, none⟩) (show w.heap.size < W1.heap.size by omega)).trans p1
  have p2 : W1.cell? ⟨w.heap.size, 2, none⟩ = some (.bool pm) := cellsOf_block PB1.out rfl
  have r2 : W2.cell? ⟨w.heap.size, 2, none⟩ = some (.bool pm) := (hB2.cell (p := ⟨w.heap.size, 2, none⟩) (show w.heap.size < W1.heap.size by omega)).trans p2
  have p3 : W1.cell? ⟨w.heap.size, 3, none⟩ = some (.string ena) := cellsOf_block PB1.out rfl
  have r3 : W2.cell? ⟨w.heap.size, 3, none⟩ = some (.string ena) := (hB2.cell (p := ⟨w.heap.size, 3, none⟩) (show w.heap.size < W1.heap.size by omega)).trans p3
  have p4 : W1.cell? ⟨w.heap.size, 4, none⟩ = some (.string etx) := cellsOf_block PB1.out rfl
  have r4 : W2.cell? ⟨w.heap.size, 4, none⟩ = some (.string etx) := (hB2.cell (p := ⟨w.heap.size, 4, none⟩) (show w.heap.size < W1.heap.size by omega)).trans p4
  have p5 : W1.cell? ⟨w.heap.size, 5, none⟩ = some (.bool eout) := cellsOf_block PB1.out rfl
  have r5 : W2.cell? ⟨w.heap.size, 5, none⟩ = some (.bool eout) := (hB2.cell (p := ⟨w.heap.size, 5, none⟩) (show w.heap.size < W1.heap.size by omega)).trans p5
  have p6 : W1.cell? ⟨w.heap.size, 6, none⟩ = some (.string epu) := cellsOf_block PB1.out rfl
  have r6 : W2.cell? ⟨w.heap.size, 6, none⟩ = some (.string epu) := (hB2.cell (p := ⟨w.heap.size, 6, none⟩) (show w.heap.size < W1.heap.size by omega)).trans p6
  have p7 : W1.cell? ⟨w.heap.size, 7, none⟩ = some (.string esy) := cellsOf_block PB1.out rfl
  have r7 : W2.cell? ⟨w.heap.size, 7, none⟩ = some (.string esy) := (hB2.cell (p := ⟨w.heap.size, 7, none⟩) (show w.heap.size < W1.heap.size by omega)).trans p7
  have p8 : W1.cell? ⟨w.heap.size, 8, none⟩ = some (.string eno) := cellsOf_block PB1.out rfl
  have r8 : W2.cell? ⟨w.heap.size, 8, none⟩ = some (.string eno) := (hB2.cell (p := ⟨w.heap.size, 8, none⟩) (show w.heap.size < W1.heap.size by omega)).trans p8
  have p9 : W1.cell? ⟨w.heap.size, 9, none⟩ = some (.slice A ds.length c) := cellsOf_block PB1.out rfl
  have r9 : W2.cell? ⟨w.heap.size, 9, none⟩ = some (.slice A ds.length c) := (hB2.cell (p := ⟨w.heap.size, 9, none⟩) (show w.heap.size < W1.heap.size by omega)).trans p9
  have p10 : W1.cell? ⟨w.heap.size, 10, none⟩ = some (.string pu) := cellsOf_block PB1.out rfl
  have r10 : W2.cell? ⟨w.heap.size, 10, none⟩ = some (.string pu) := (hB2.cell (p := ⟨w.heap.size, 10, none⟩) (show w.heap.size < W1.heap.size by omega)).trans p10
  have p11 : W1.cell? ⟨w.heap.size, 11, none⟩ = some (.string sy) := cellsOf_block PB1.out rfl
  have r11 : W2.cell? ⟨w.heap.size, 11, none⟩ = some (.string sy) := (hB2.cell (p := ⟨w.heap.size, 11, none⟩) (show w.heap.size < W1.heap.size by omega)).trans p11
  have p12 : W1.cell? ⟨w.heap.size, 12, none⟩ = some (.string tx) := cellsOf_block PB1.out rfl
  have r12 : W2.cell? ⟨w.heap.size, 12, none⟩ = some (.string tx) := (hB2.cell (p := ⟨w.heap.size, 12, none⟩) (show w.heap.size < W1.heap.size by omega)).trans p12
  have PB3 := Lib.hid P3
  have RB3 := Lib.hid R3
  have XB3 := Lib.hid bx3
  have E3 := Lib.hid e3
  show Calls _ _ #[.agg #[.int .i64 ki, .string na, .bool pm, .string ena, .string etx, .bool eout, .string epu, .string esy, .string eno, .slice A ds.length c, .string pu, .string sy, .string tx]] _ _
  generalize hds : ds.length = n at *
  have HDS := Lib.hid hds
  clear h hB1 hB2 hB3 bx1 bx2 bx3 P1 P3 R3 hds hs1 hs2 hs3
  go_enter Tryd.func30, Tryd.ntmps30
  go_upto_region 2 with (fail)
  clear hW1 hW2 hW3 e1 e2 e3 p0 r0 p1 r1 p2 r2 p3 r3 p4 r4 p5 r5 p6 r6 p7 r7 p8 r8 p9 r9 p10 r10 p11 r11 p12 r12
  go_wp2
  go_loopw [4] (fun i wr => ∃ (k : Nat) (v : Value), k ≤ n ∧ i = .int .i64 k ∧ Hid (wr.heap[w.heap.size + 2]? = some (.cells #[.int .i64 ki, .string na, .bool pm, .string ena, .string etx, .bool eout, .string epu, .string esy, .string eno, v, .string pu, .string sy, .string tx] 54 (0, 0))) ∧ Hid (wr.ownsRow (w.heap.size + 3) 84 5 v k (dfCells (ds.take k))) ∧ Hid (KeepG W3 wr (fun j => j = w.heap.size + 2))) (fun i _ => n - (intOf i).toNat)
  case atStart => exact ⟨0, _, by omega, rfl, XB3, World.ownsRow_nil _ _ _ _, KeepG.of_below (Below.refl _ _) _⟩
  case round =>
    obtain ⟨k, v, hk, rfl, HX, HO, HK⟩ := hrel
    have kp := (HK.out.block w.heap.size (by have := E3.out; omega) (by omega)).trans PB3.out
    have y9 : wr.cell? ⟨w.heap.size, 9, none⟩ = some (.slice A n c) := cellsOf_block kp rfl
    have z3 : W3.heap.size ≤ wr.heap.size := HK.out.size
    have HBW := Lib.hid (HB3.out.trans (show Below w.heap.size W3 wr from HK.out.below (by have := E3.out; omega) (fun j hj => by omega)))
    by_cases hlt : k < n
    · obtain ⟨a, x, rfl, hx, gx, _⟩ := DS.out.2 k hlt
      have gx := gx.same (w' := wr) HBW.out.size (HBW.out.block _ gx.lt)
      obtain ⟨_, g0, g1, g2, g3, g4⟩ := gx
      have b0 : (0 : Int) ≤ (k : Int) := by omega
      have b1 : (k : Int) < (n : Int) := by omega
      obtain ⟨W5, hW5, hs5, hB5, bx5⟩ := boxWorld wr #[.string x.p.na, .int .i64 x.p.ki, .slice x.A x.p.ws.length x.c, .int .i64 x.p.mo, .string x.p.va] 82
      have q0 := cellsOf_block bx5 (j := 0) rfl
      have q1 := cellsOf_block bx5 (j := 1) rfl
      have q2 := cellsOf_block bx5 (j := 2) rfl
      have q3 := cellsOf_block bx5 (j := 3) rfl
      have q4 := cellsOf_block bx5 (j := 4) rfl
      have hX5 := (hB5.block (w.heap.size + 2) (by have := E3.out; omega)).trans HX.out
      have x9 : W5.cell? ⟨w.heap.size + 2, 9, none⟩ = some v := cellsOf_block hX5 rfl
      have HX5 := Lib.hid hX5
      have HO5 := Lib.hid (own_belowD HO.out hB5)
      have HK5 := Lib.hid (HK.out.trans (KeepG.of_below hB5 _))
      have z5 : wr.heap.size ≤ W5.heap.size := hB5.size
      have HT := Lib.hid (show dfCells (ds.take (k + 1)) = dfCells (ds.take k) ++ [.string x.p.na, .int .i64 x.p.ki, .slice x.A x.p.ws.length x.c, .int .i64 x.p.mo, .string x.p.va] by rw [List.take_add_one, hx, dfCells_snoc]; rfl)
      clear kp hx bx5 hB5 hs5 hX5 HO HX
      go_upto_region 6 with (fail)
      clear hW5
      go_wp2_with (at_builtin; refine wpList_append_own_at _ rfl (.tmp 32) (.tmp 44) 33 rfl (w.heap.size + 3) 84 i0 _ 5 72 Tryd.underlying33 hi0 hz0 hz1 hz2 rfl (by decide) _ _ _ rfl (HO5.out.alloc _) ⟨W5.heap.size, 0, none⟩ 1 1 [.string x.p.na, .int .i64 x.p.ki, .slice x.A x.p.ws.length x.c, .int .i64 x.p.mo, .string x.p.va] rfl rfl (litCells _ _ _) ?k2 ?k3 ?k4 ?k5 ?_)
      case k2 => intro u hu
                 simp only [List.mem_cons, List.not_mem_nil, or_false] at hu
                 rcases hu with rfl | rfl | rfl | rfl | rfl <;> rfl
      case k3 => unfold maxLen; omega
      case k4 => omega
      case k5 => have := E3.out; simp; omega
      intro o' w7 hown' hgrow _ hblk
      obtain ⟨A7, c7, ho7, _⟩ := own_shapeD hown'
      subst ho7
      have hXv : v.ownBlock ≠ some (w.heap.size + 2) := fun e => by have := (HO5.out.lt _ e).1; omega
      have hX7 := (hgrow.block (w.heap.size + 2) (by have := E3.out; simp; omega) (fun e => hXv e.symm)).trans (((Below.refl W5.heap.size W5).alloc (Nat.le_refl _) (.cells #[.string x.p.na, .int .i64 x.p.ki, .slice x.A x.p.ws.length x.c, .int .i64 x.p.mo, .string x.p.va] 84)).block (w.heap.size + 2) (by have := E3.out; omega) |>.trans HX5.out)
      have m9 := Lib.frozen_of_heap hX7 9
      have x9' : w7.cell? ⟨w.heap.size + 2, 9, none⟩ = some v := cellsOf_block hX7 rfl
      have HX7 := Lib.hid hX7
      have HO7 : Hid (w7.ownsRow (w.heap.size + 3) 84 5 (.slice A7 (k + 1) c7) (k + 1) (dfCells (ds.take (k + 1)))) := by
        show w7.ownsRow _ _ _ _ _ _
        rw [HT.out]; exact hown'
      have HK6 := Lib.hid (HK5.out.trans' (KeepG.of_below ((Below.refl W5.heap.size W5).alloc (Nat.le_refl _) (.cells #[.string x.p.na, .int .i64 x.p.ki, .slice x.A x.p.ws.length x.c, .int .i64 x.p.mo, .string x.p.va] 84)) (fun _ => False)) (fun j hj _ => hj.elim))
      have HK7 := Lib.hid (HK6.out.trans' (KeepG.of_grown hgrow (fun j => v.ownBlock = some j) (fun j hj _ => hj)) (fun j hj hl => by have := (HO5.out.lt _ hj).1; have := E3.out; omega))
      have HX8 := Lib.hid (show (w7.setCell ⟨w.heap.size + 2, 9, none⟩ (.slice A7 (k + 1) c7)).heap[w.heap.size + 2]? = some (.cells #[.int .i64 ki, .string na, .bool pm, .string ena, .string etx, .bool eout, .string epu, .string esy, .string eno, .slice A7 (k + 1) c7, .string pu, .string sy, .string tx] 54 (0, 0)) by simpa using Go.Joins.block_setCell HX7.out (.slice A7 (k + 1) c7) (i := 9))
      have HO8 := Lib.hid (show (w7.setCell ⟨w.heap.size + 2, 9, none⟩ (.slice A7 (k + 1) c7)).ownsRow (w.heap.size + 3) 84 5 (.slice A7 (k + 1) c7) (k + 1) (dfCells (ds.take (k + 1))) from ownsRow_setCell_other HO7.out (fun e => by have h := (HO7.out.lt _ e).1; (try dsimp only at h); omega) _)
      have HK8 := Lib.hid (HK7.out.set (b := w.heap.size + 2) (i := 9) (u := (.slice A7 (k + 1) c7)) (.inr rfl))
      clear hown' hgrow hblk hX7 hXv HO5 HX5 HK5 HK6 HK7 HX7
      go_wp2
      go_roundw
      case rel => exact ⟨k + 1, .slice A7 (k + 1) c7, by omega, by go_num, HX8, HO8, HK8⟩
      case measure => simp [intOf]; omega
    · obtain rfl : k = n := by omega
      have rb := (HK.out.block (w.heap.size + 1) (by have := E3.out; omega) (by omega)).trans RB3.out
      obtain ⟨A9, c9, hv, _⟩ := own_shapeD HO.out
      subst hv
      have xb := HX.out
      have x0 : wr.cell? ⟨w.heap.size + 2, 0, none⟩ = some (.int .i64 ki) := cellsOf_block xb rfl
      have x1 : wr.cell? ⟨w.heap.size + 2, 1, none⟩ = some (.string na) := cellsOf_block xb rfl
      have x2 : wr.cell? ⟨w.heap.size + 2, 2, none⟩ = some (.bool pm) := cellsOf_block xb rfl
      have x3 : wr.cell? ⟨w.heap.size + 2, 3, none⟩ = some (.string ena) := cellsOf_block xb rfl
      have x4 : wr.cell? ⟨w.heap.size + 2, 4, none⟩ = some (.string etx) := cellsOf_block xb rfl
      have x5 : wr.cell? ⟨w.heap.size + 2, 5, none⟩ = some (.bool eout) := cellsOf_block xb rfl
      have x6 : wr.cell? ⟨w.heap.size + 2, 6, none⟩ = some (.string epu) := cellsOf_block xb rfl
      have x7 : wr.cell? ⟨w.heap.size + 2, 7, none⟩ = some (.string esy) := cellsOf_block xb rfl
      have x8 : wr.cell? ⟨w.heap.size + 2, 8, none⟩ = some (.string eno) := cellsOf_block xb rfl
      have x9 : wr.cell? ⟨w.heap.size + 2, 9, none⟩ = some (.slice A9 k c9) := cellsOf_block xb rfl
      have x10 : wr.cell? ⟨w.heap.size + 2, 10, none⟩ = some (.string pu) := cellsOf_block xb rfl
      have x11 : wr.cell? ⟨w.heap.size + 2, 11, none⟩ = some (.string sy) := cellsOf_block xb rfl
      have x12 : wr.cell? ⟨w.heap.size + 2, 12, none⟩ = some (.string tx) := cellsOf_block xb rfl
      have m0 := Lib.frozen_of_heap rb 0
      have v0 : wr.cell? ⟨w.heap.size + 1, 0, none⟩ = some (.int .i64 0) := cellsOf_block rb rfl
      have m1 := Lib.frozen_of_heap rb 1
      have v1 : wr.cell? ⟨w.heap.size + 1, 1, none⟩ = some (.string ⟨#[]⟩) := cellsOf_block rb rfl
      have m2 := Lib.frozen_of_heap rb 2
      have v2 : wr.cell? ⟨w.heap.size + 1, 2, none⟩ = some (.bool false) := cellsOf_block rb rfl
      have m3 := Lib.frozen_of_heap rb 3
      have v3 : wr.cell? ⟨w.heap.size + 1, 3, none⟩ = some (.string ⟨#[]⟩) := cellsOf_block rb rfl
      have m4 := Lib.frozen_of_heap rb 4
      have v4 : wr.cell? ⟨w.heap.size + 1, 4, none⟩ = some (.string ⟨#[]⟩) := cellsOf_block rb rfl
      have m5 := Lib.frozen_of_heap rb 5
      have v5 : wr.cell? ⟨w.heap.size + 1, 5, none⟩ = some (.bool false) := cellsOf_block rb rfl
      have m6 := Lib.frozen_of_heap rb 6
      have v6 : wr.cell? ⟨w.heap.size + 1, 6, none⟩ = some (.string ⟨#[]⟩) := cellsOf_block rb rfl
      have m7 := Lib.frozen_of_heap rb 7
      have v7 : wr.cell? ⟨w.heap.size + 1, 7, none⟩ = some (.string ⟨#[]⟩) := cellsOf_block rb rfl
      have m8 := Lib.frozen_of_heap rb 8
      have v8 : wr.cell? ⟨w.heap.size + 1, 8, none⟩ = some (.string ⟨#[]⟩) := cellsOf_block rb rfl
      have m9 := Lib.frozen_of_heap rb 9
      have v9 : wr.cell? ⟨w.heap.size + 1, 9, none⟩ = some (.slice none 0 0) := cellsOf_block rb rfl
      have m10 := Lib.frozen_of_heap rb 10
      have v10 : wr.cell? ⟨w.heap.size + 1, 10, none⟩ = some (.string ⟨#[]⟩) := cellsOf_block rb rfl
      have m11 := Lib.frozen_of_heap rb 11
      have v11 : wr.cell? ⟨w.heap.size + 1, 11, none⟩ = some (.string ⟨#[]⟩) := cellsOf_block rb rfl
      have m12 := Lib.frozen_of_heap rb 12
      have v12 : wr.cell? ⟨w.heap.size + 1, 12, none⟩ = some (.string ⟨#[]⟩) := cellsOf_block rb rfl
      have RB := Lib.hid rb
      have HT : ds.take k = ds := List.take_of_length_le (by have := HDS.out; omega)
      have ho := HO.out
      rw [HT] at ho
      have HO2 := Lib.hid ho
      have HBE := Lib.hid (HB3.out.trans (show Below w.heap.size W3 wr from HK.out.below (by have := E3.out; omega) (fun j hj => by omega)))
      clear kp rb xb HT ho HO HX
      go_wp2
      have hV : ((((((((((((((wr.setCell ⟨w.heap.size + 1, 0, none⟩ (.int .i64 ki)).setCell ⟨w.heap.size + 1, 1, none⟩ (.string na)).setCell ⟨w.heap.size + 1, 2, none⟩ (.bool pm)).setCell ⟨w.heap.size + 1, 3, none⟩ (.string ena)).setCell ⟨w.heap.size + 1, 4, none⟩ (.string etx)).setCell ⟨w.heap.size + 1, 5, none⟩ (.bool eout)).setCell ⟨w.heap.size + 1, 6, none⟩ (.string epu)).setCell ⟨w.heap.size + 1, 7, none⟩ (.string esy)).setCell ⟨w.heap.size + 1, 8, none⟩ (.string eno)).setCell ⟨w.heap.size + 1, 9, none⟩ (.slice A9 k c9)).setCell ⟨w.heap.size + 1, 10, none⟩ (.string pu)).setCell ⟨w.heap.size + 1, 11, none⟩ (.string sy)).setCell ⟨w.heap.size + 1, 12, none⟩ (.string tx))).heap[w.heap.size + 1]? = some (.cells #[.int .i64 ki, .string na, .bool pm, .string ena, .string etx, .bool eout, .string epu, .string esy, .string eno, .slice A9 k c9, .string pu, .string sy, .string tx] 54 (0, 0)) := by simpa using (Go.Joins.block_setCell (Go.Joins.block_setCell (Go.Joins.block_setCell (Go.Joins.block_setCell (Go.Joins.block_setCell (Go.Joins.block_setCell (Go.Joins.block_setCell (Go.Joins.block_setCell (Go.Joins.block_setCell (Go.Joins.block_setCell (Go.Joins.block_setCell (Go.Joins.block_setCell (Go.Joins.block_setCell RB.out (.int .i64 ki) (i := 0)) (.string na) (i := 1)) (.bool pm) (i := 2)) (.string ena) (i := 3)) (.string etx) (i := 4)) (.bool eout) (i := 5)) (.string epu) (i := 6)) (.string esy) (i := 7)) (.string eno) (i := 8)) (.slice A9 k c9) (i := 9)) (.string pu) (i := 10)) (.string sy) (i := 11)) (.string tx) (i := 12))
      have hE : Below w.heap.size w ((((((((((((((wr.setCell ⟨w.heap.size + 1, 0, none⟩ (.int .i64 ki)).setCell ⟨w.heap.size + 1, 1, none⟩ (.string na)).setCell ⟨w.heap.size + 1, 2, none⟩ (.bool pm)).setCell ⟨w.heap.size + 1, 3, none⟩ (.string ena)).setCell ⟨w.heap.size + 1, 4, none⟩ (.string etx)).setCell ⟨w.heap.size + 1, 5, none⟩ (.bool eout)).setCell ⟨w.heap.size + 1, 6, none⟩ (.string epu)).setCell ⟨w.heap.size + 1, 7, none⟩ (.string esy)).setCell ⟨w.heap.size + 1, 8, none⟩ (.string eno)).setCell ⟨w.heap.size + 1, 9, none⟩ (.slice A9 k c9)).setCell ⟨w.heap.size + 1, 10, none⟩ (.string pu)).setCell ⟨w.heap.size + 1, 11, none⟩ (.string sy)).setCell ⟨w.heap.size + 1, 12, none⟩ (.string tx))) := (((((((((((((HBE.out.setCell (p := ⟨w.heap.size + 1, 0, none⟩) (Nat.le_succ _) (.int .i64 ki)).setCell (p := ⟨w.heap.size + 1, 1, none⟩) (Nat.le_succ _) (.string na)).setCell (p := ⟨w.heap.size + 1, 2, none⟩) (Nat.le_succ _) (.bool pm)).setCell (p := ⟨w.heap.size + 1, 3, none⟩) (Nat.le_succ _) (.string ena)).setCell (p := ⟨w.heap.size + 1, 4, none⟩) (Nat.le_succ _) (.string etx)).setCell (p := ⟨w.heap.size + 1, 5, none⟩) (Nat.le_succ _) (.bool eout)).setCell (p := ⟨w.heap.size + 1, 6, none⟩) (Nat.le_succ _) (.string epu)).setCell (p := ⟨w.heap.size + 1, 7, none⟩) (Nat.le_succ _) (.string esy)).setCell (p := ⟨w.heap.size + 1, 8, none⟩) (Nat.le_succ _) (.string eno)).setCell (p := ⟨w.heap.size + 1, 9, none⟩) (Nat.le_succ _) (.slice A9 k c9)).setCell (p := ⟨w.heap.size + 1, 10, none⟩) (Nat.le_succ _) (.string pu)).setCell (p := ⟨w.heap.size + 1, 11, none⟩) (Nat.le_succ _) (.string sy)).setCell (p := ⟨w.heap.size + 1, 12, none⟩) (Nat.le_succ _) (.string tx))
      have hO : ((((((((((((((wr.setCell ⟨w.heap.size + 1, 0, none⟩ (.int .i64 ki)).setCell ⟨w.heap.size + 1, 1, none⟩ (.string na)).setCell ⟨w.heap.size + 1, 2, none⟩ (.bool pm)).setCell ⟨w.heap.size + 1, 3, none⟩ (.string ena)).setCell ⟨w.heap.size + 1, 4, none⟩ (.string etx)).setCell ⟨w.heap.size + 1, 5, none⟩ (.bool eout)).setCell ⟨w.heap.size + 1, 6, none⟩ (.string epu)).setCell ⟨w.heap.size + 1, 7, none⟩ (.string esy)).setCell ⟨w.heap.size + 1, 8, none⟩ (.string eno)).setCell ⟨w.heap.size + 1, 9, none⟩ (.slice A9 k c9)).setCell ⟨w.heap.size + 1, 10, none⟩ (.string pu)).setCell ⟨w.heap.size + 1, 11, none⟩ (.string sy)).setCell ⟨w.heap.size + 1, 12, none⟩ (.string tx))).ownsRow (w.heap.size + 3) 84 5 (.slice A9 k c9) k (dfCells ds) := (ownsRow_setCell_other (ownsRow_setCell_other (ownsRow_setCell_other (ownsRow_setCell_other (ownsRow_setCell_other (ownsRow_setCell_other (ownsRow_setCell_other (ownsRow_setCell_other (ownsRow_setCell_other (ownsRow_setCell_other (ownsRow_setCell_other (ownsRow_setCell_other (ownsRow_setCell_other HO2.out (fun e => by have := (HO2.out.lt _ e).1; dsimp only at this; omega) _) (fun e => by have := (HO2.out.lt _ e).1; dsimp only at this; omega) _) (fun e => by have := (HO2.out.lt _ e).1; dsimp only at this; omega) _) (fun e => by have := (HO2.out.lt _ e).1; dsimp only at this; omega) _) (fun e => by have := (HO2.out.lt _ e).1; dsimp only at this; omega) _) (fun e => by have := (HO2.out.lt _ e).1; dsimp only at this; omega) _) (fun e => by have := (HO2.out.lt _ e).1; dsimp only at this; omega) _) (fun e => by have := (HO2.out.lt _ e).1; dsimp only at this; omega) _) (fun e => by have := (HO2.out.lt _ e).1; dsimp only at this; omega) _) (fun e => by have := (HO2.out.lt _ e).1; dsimp only at this; omega) _) (fun e => by have := (HO2.out.lt _ e).1; dsimp only at this; omega) _) (fun e => by have := (HO2.out.lt _ e).1; dsimp only at this; omega) _) (fun e => by have := (HO2.out.lt _ e).1; dsimp only at this; omega) _)
      generalize (((((((((((((wr.setCell ⟨w.heap.size + 1, 0, none⟩ (.int .i64 ki)).setCell ⟨w.heap.size + 1, 1, none⟩ (.string na)).setCell ⟨w.heap.size + 1, 2, none⟩ (.bool pm)).setCell ⟨w.heap.size + 1, 3, none⟩ (.string ena)).setCell ⟨w.heap.size + 1, 4, none⟩ (.string etx)).setCell ⟨w.heap.size + 1, 5, none⟩ (.bool eout)).setCell ⟨w.heap.size + 1, 6, none⟩ (.string epu)).setCell ⟨w.heap.size + 1, 7, none⟩ (.string esy)).setCell ⟨w.heap.size + 1, 8, none⟩ (.string eno)).setCell ⟨w.heap.size + 1, 9, none⟩ (.slice A9 k c9)).setCell ⟨w.heap.size + 1, 10, none⟩ (.string pu)).setCell ⟨w.heap.size + 1, 11, none⟩ (.string sy)).setCell ⟨w.heap.size + 1, 12, none⟩ (.string tx)) = V at hV hE hO ⊢
      have d0 : V.cell? ⟨w.heap.size + 1, 0, none⟩ = some (.int .i64 ki) := cellsOf_block hV rfl
      have d1 : V.cell? ⟨w.heap.size + 1, 1, none⟩ = some (.string na) := cellsOf_block hV rfl
      have d2 : V.cell? ⟨w.heap.size + 1, 2, none⟩ = some (.bool pm) := cellsOf_block hV rfl
      have d3 : V.cell? ⟨w.heap.size + 1, 3, none⟩ = some (.string ena) := cellsOf_block hV rfl
      have d4 : V.cell? ⟨w.heap.size + 1, 4, none⟩ = some (.string etx) := cellsOf_block hV rfl
      have d5 : V.cell? ⟨w.heap.size + 1, 5, none⟩ = some (.bool eout) := cellsOf_block hV rfl
      have d6 : V.cell? ⟨w.heap.size + 1, 6, none⟩ = some (.string epu) := cellsOf_block hV rfl
      have d7 : V.cell? ⟨w.heap.size + 1, 7, none⟩ = some (.string esy) := cellsOf_block hV rfl
      have d8 : V.cell? ⟨w.heap.size + 1, 8, none⟩ = some (.string eno) := cellsOf_block hV rfl
      have d9 : V.cell? ⟨w.heap.size + 1, 9, none⟩ = some (.slice A9 k c9) := cellsOf_block hV rfl
      have d10 : V.cell? ⟨w.heap.size + 1, 10, none⟩ = some (.string pu) := cellsOf_block hV rfl
      have d11 : V.cell? ⟨w.heap.size + 1, 11, none⟩ = some (.string sy) := cellsOf_block hV rfl
      have d12 : V.cell? ⟨w.heap.size + 1, 12, none⟩ = some (.string tx) := cellsOf_block hV rfl
      refine bodyPost_ret (v := .agg #[.int .i64 ki, .string na, .bool pm, .string ena, .string etx, .bool eout, .string epu, .string esy, .string eno, .slice A9 k c9, .string pu, .string sy, .string tx]) (by simp [results, Tryd.results30, go_sem, d0, d1, d2, d3, d4, d5, d6, d7, d8, d9, d10, d11, d12]) rfl ?_
      refine ⟨A9, c9, ?_, ?_, hE⟩
      · show Ending.returned _ = Ending.returned (.agg #[.int .i64 ki, .string na, .bool pm, .string ena, .string etx, .bool eout, .string epu, .string esy, .string eno, .slice A9 ds.length c9, .string pu, .string sy, .string tx])
        rw [HDS.out]
      · show V.ownsRow _ _ _ (.slice A9 ds.length c9) ds.length _
        rw [HDS.out]
        exact own_lowerD hO (by omega)
end Go.Proofs.YtapjmfgpdkghlaaDoor
