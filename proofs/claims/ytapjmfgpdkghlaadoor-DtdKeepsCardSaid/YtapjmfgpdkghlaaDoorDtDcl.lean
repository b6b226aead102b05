/- Rows of declarations in memory, as narthexref16 has them; what is too great. Conditions: none. -/
import Derived.Test.YtapjmfgpdkghlaaDoorDtObs3
namespace Go.Proofs.YtapjmfgpdkghlaaDoor
open Go.RowKit Go.Maps
set_option linter.unusedVariables false
set_option linter.unusedSimpArgs false
/-- One declaration's thirteen cells. -/
structure DcCell (w : World) (a : Addr) (d : Dc) : Prop where
  lt : a.block < w.heap.size
  c0 : w.cell? a = some (.int .i64 d.ki)
  c1 : w.cell? ⟨a.block, a.off + 1, none⟩ = some (.string d.na)
  c2 : w.cell? ⟨a.block, a.off + 2, none⟩ = some (.bool d.pm)
  c3 : w.cell? ⟨a.block, a.off + 3, none⟩ = some (.string d.en.na)
  c4 : w.cell? ⟨a.block, a.off + 4, none⟩ = some (.string d.en.tx)
  c5 : w.cell? ⟨a.block, a.off + 5, none⟩ = some (.bool d.en.out)
  c6 : w.cell? ⟨a.block, a.off + 6, none⟩ = some (.string d.en.pu)
  c7 : w.cell? ⟨a.block, a.off + 7, none⟩ = some (.string d.en.sy)
  c8 : w.cell? ⟨a.block, a.off + 8, none⟩ = some (.string d.en.no)
  c9 : w.cell? ⟨a.block, a.off + 9, none⟩ = some (.slice d.A d.ds.length d.c)
  c10 : w.cell? ⟨a.block, a.off + 10, none⟩ = some (.string d.pu)
  c11 : w.cell? ⟨a.block, a.off + 11, none⟩ = some (.string d.sy)
  c12 : w.cell? ⟨a.block, a.off + 12, none⟩ = some (.string d.tx)
theorem DcCell.same {w w' : World} {a : Addr} {d : Dc} (h : DcCell w a d) (hs : w.heap.size ≤ w'.heap.size) (hb : w'.heap[a.block]? = w.heap[a.block]?) : DcCell w' a d :=
  ⟨Nat.lt_of_lt_of_le h.lt hs, (World.cell?_of_block hb).trans h.c0, (World.cell?_of_block (a := ⟨a.block, _, none⟩) hb).trans h.c1, (World.cell?_of_block (a := ⟨a.block, _, none⟩) hb).trans h.c2, (World.cell?_of_block (a := ⟨a.block, _, none⟩) hb).trans h.c3, (World.cell?_of_block (a := ⟨a.block, _, none⟩) hb).trans h.c4, (World.cell?_of_block (a := ⟨a.block, _, none⟩) hb).trans h.c5, (World.cell?_of_block (a := ⟨a.block, _, none⟩) hb).trans h.c6, (World.cell?_of_block (a := ⟨a.block, _, none⟩) hb).trans h.c7, (World.cell?_of_block (a := ⟨a.block, _, none⟩) hb).trans h.c8, (World.cell?_of_block (a := ⟨a.block, _, none⟩) hb).trans h.c9, (World.cell?_of_block (a := ⟨a.block, _, none⟩) hb).trans h.c10, (World.cell?_of_block (a := ⟨a.block, _, none⟩) hb).trans h.c11, (World.cell?_of_block (a := ⟨a.block, _, none⟩) hb).trans h.c12⟩
def DcsAt (w : World) (A : Option Addr) (n : Nat) (l : List Dc) : Prop := l.length = n ∧ ∀ i, i < n → ∃ a d, A = some a ∧ l[i]? = some d ∧ DcCell w (a.add (i * 13)) d ∧ DfsAt w d.A d.ds.length d.ds
theorem DcsAt.below {w w' : World} {A : Option Addr} {n : Nat} {l : List Dc} (h : DcsAt w A n l) (hb : Below w.heap.size w w') : DcsAt w' A n l :=
  ⟨h.1, fun i hi => by
    obtain ⟨a, d, h1, h2, h3, h4⟩ := h.2 i hi
    exact ⟨a, d, h1, h2, h3.same hb.size (hb.block _ h3.lt), h4.below hb⟩⟩
/-- What is not too great. -/
def OkDf (x : DfP) : Prop := x.na.size ≤ 1200 ∧ x.ws.length ≤ 12
def OkDc (d : DcP) : Prop := d.ds.length ≤ 12 ∧ d.na.size ≤ 300 ∧ d.en.na.size ≤ 300 ∧ ∀ x ∈ d.ds, OkDf x
def OkDcs (l : List DcP) : Prop := l.length ≤ 16 ∧ ∀ d ∈ l, OkDc d
def GreatTold (P : Prop) (w : World) (e : Ending) (w' : World) : Prop := ∃ b, e = .returned (.bool b) ∧ (b = false → P) ∧ Below w.heap.size w w'
theorem GreatTold.yes {P : Prop} {w w' : World} (hB : Below w.heap.size w w') : GreatTold P w (.returned (.bool true)) w' := ⟨true, rfl, (fun h => nomatch h), hB⟩
theorem GreatTold.no {P : Prop} {w w' : World} (hB : Below w.heap.size w w') (h : P) : GreatTold P w (.returned (.bool false)) w' := ⟨false, rfl, fun _ => h, hB⟩
set_option maxRecDepth 100000 in
set_option maxHeartbeats 2000000 in
theorem great15_any (d : Df) (w : World) (h : TsAt w d.A d.p.ws.length d.p.ws) : Calls Tryd.prog 43 #[d.v] w (GreatTold (OkDf d.p) w) := by
  obtain ⟨⟨na, ki, ws, mo, va⟩, A, c⟩ := d
  dsimp only at h
  obtain ⟨W, hW, hsW, hBW, bx⟩ := boxWorld w #[.string na, .int .i64 ki, .slice A ws.length c, .int .i64 mo, .string va] 84
  have TS := Lib.hid (h.below hBW)
  have HB := Lib.hid hBW
  have y0 := cellsOf_block bx (j := 0) rfl
  have y2 := cellsOf_block bx (j := 2) rfl
  have y4 := cellsOf_block bx (j := 4) rfl
  clear h hBW bx hsW
  show Calls _ _ #[.agg #[.string na, .int .i64 ki, .slice A ws.length c, .int .i64 mo, .string va]] _ _
  generalize hws : ws.length = n at *
  have HWS := Lib.hid hws
  clear hws
  go_enter Tryd.func43, Tryd.ntmps43
  go_upto_region 1 with (fail)
  clear hW
  go_wp2
  go_loopw [3] (fun i wr => ∃ k : Nat, k ≤ n ∧ k ≤ 30 ∧ i = .int .i64 k ∧ wr = W) (fun i _ => n - (intOf i).toNat)
  case atStart => exact ⟨0, by omega, by omega, rfl, rfl⟩
  case round =>
    obtain ⟨k, hk, hk2, rfl, rfl⟩ := hrel
    by_cases hlt : k < n
    · have b1 : (k : Int) < (n : Int) := by omega
      by_cases h30 : k < 30
      · have b2 : (k : Int) < 30 := by omega
        have b0 : (0 : Int) ≤ (k : Int) := by omega
        obtain ⟨a, x, rfl, hx, _, g0⟩ := TS.out.2 k hlt
        by_cases hg : (1200 : Int) < (x.size : Int)
        · go_wp2
          go_ret
          exact .yes HB.out
        · go_wp2
          go_roundw
          case rel => exact ⟨k + 1, by omega, by omega, by go_num, trivial⟩
          case measure => simp [intOf]; omega
      · have b2 : ¬ (k : Int) < 30 := by omega
        have g12 : (12 : Int) < (n : Int) := by omega
        by_cases t0 : (1200 : Int) < (na.size : Int)
        · go_wp2
          go_ret
          exact .yes HB.out
        · go_wp2
          go_ret
          exact .yes HB.out
    · obtain rfl : k = n := by omega
      by_cases t0 : (1200 : Int) < (na.size : Int)
      · go_wp2
        go_ret
        exact .yes HB.out
      · by_cases t1 : (12 : Int) < (k : Int)
        · go_wp2
          go_ret
          exact .yes HB.out
        · by_cases t2 : (300 : Int) < (va.size : Int)
          · go_wp2
            go_ret
            exact .yes HB.out
          · go_wp2
            go_ret
            exact .no HB.out ⟨by show na.size ≤ 1200; omega, by show ws.length ≤ 12; have := HWS.out; omega⟩
theorem dcBox {w : World} {b : Nat} {t : TypeId} {d : Dc} (h : w.heap[b]? = some (.cells d.cells.toArray t (0, 0))) : DcCell w ⟨b, 0, none⟩ d :=
  ⟨(Array.getElem?_eq_some_iff.1 h).1, cellsOf_block h (j := 0) rfl, cellsOf_block h (j := 1) rfl, cellsOf_block h (j := 2) rfl, cellsOf_block h (j := 3) rfl, cellsOf_block h (j := 4) rfl, cellsOf_block h (j := 5) rfl, cellsOf_block h (j := 6) rfl, cellsOf_block h (j := 7) rfl, cellsOf_block h (j := 8) rfl, cellsOf_block h (j := 9) rfl, cellsOf_block h (j := 10) rfl, cellsOf_block h (j := 11) rfl, cellsOf_block h (j := 12) rfl⟩
set_option maxRecDepth 100000 in
set_option maxHeartbeats 4000000 in
theorem great16_any (d : Dc) (w : World) (h : DfsAt w d.A d.ds.length d.ds) : Calls Tryd.prog 28 #[d.v] w (GreatTold (OkDc d.pl) w) := by
  obtain ⟨ki, na, pm, ⟨ena, etx, eout, epu, esy, eno⟩, ds, A, c, pu, sy, tx⟩ := d
  dsimp only at h
  obtain ⟨W, hW, hsW, hBW, bx⟩ := boxWorld w #[.int .i64 ki, .string na, .bool pm, .string ena, .string etx, .bool eout, .string epu, .string esy, .string eno, .slice A ds.length c, .string pu, .string sy, .string tx] 54
  have DS := Lib.hid (h.below hBW)
  have HB := Lib.hid hBW
  have BX := Lib.hid bx
  have hlt0 : w.heap.size < W.heap.size := (Array.getElem?_eq_some_iff.1 bx).1
  show Calls _ _ #[.agg #[.int .i64 ki, .string na, .bool pm, .string ena, .string etx, .bool eout, .string epu, .string esy, .string eno, .slice A ds.length c, .string pu, .string sy, .string tx]] _ _
  generalize hws : ds.length = n at *
  have HWS := Lib.hid hws
  clear h hBW bx hsW hws
  go_enter Tryd.func28, Tryd.ntmps28
  go_upto_region 1 with (fail)
  clear hW
  go_wp2
  go_loopw [3] (fun i wr => ∃ k : Nat, k ≤ n ∧ k ≤ 30 ∧ i = .int .i64 k ∧ Hid (∀ j d, j < k → ds[j]? = some d → OkDf d.p) ∧ Hid (Below W.heap.size W wr)) (fun i _ => n - (intOf i).toNat)
  case atStart => exact ⟨0, by omega, by omega, rfl, fun j d hj => absurd hj (Nat.not_lt_zero _), Below.refl _ _⟩
  case round =>
    obtain ⟨k, hk, hk2, rfl, HOK, HB2⟩ := hrel
    have bx2 := (HB2.out.block w.heap.size hlt0).trans BX.out
    have y1 := cellsOf_block bx2 (j := 1) rfl
    have y3 := cellsOf_block bx2 (j := 3) rfl
    have y4 := cellsOf_block bx2 (j := 4) rfl
    have y7 := cellsOf_block bx2 (j := 7) rfl
    have y9 := cellsOf_block bx2 (j := 9) rfl
    have y11 := cellsOf_block bx2 (j := 11) rfl
    have y12 := cellsOf_block bx2 (j := 12) rfl
    have HB3 := Lib.hid (HB.out.trans (HB2.out.mono HB.out.size))
    clear bx2
    by_cases hlt : k < n
    · have b1 : (k : Int) < (n : Int) := by omega
      by_cases h30 : k < 30
      · have b2 : (k : Int) < 30 := by omega
        have b0 : (0 : Int) ≤ (k : Int) := by omega
        obtain ⟨a, x, rfl, hx, g, hw⟩ := (DfsAt.below (w := W) DS.out HB2.out).2 k hlt
        obtain ⟨_, g0, g1, g2, g3, g4⟩ := g
        have C := Lib.hid (great15_any x wr hw)
        have HX := Lib.hid hx
        clear hx hw
        go_wp2_with fail
        refine C.out.mono ?_
        rintro e w3 ⟨b, rfl, hb, hB⟩
        have HB4 := Lib.hid (HB3.out.trans (hB.mono HB3.out.size))
        have HB5 := Lib.hid (HB2.out.trans (hB.mono HB2.out.size))
        clear hB C
        cases b with
        | true =>
          clear hb
          go_wp2
          go_ret
          exact .yes HB4.out
        | false =>
          have HOK2 := Lib.hid (show ∀ j d, j < k + 1 → ds[j]? = some d → OkDf d.p from fun j d hj hd => by
            rcases Nat.lt_or_eq_of_le (Nat.lt_succ_iff.1 hj) with h1 | h1
            · exact HOK.out j d h1 hd
            · subst h1
              have h2 := HX.out
              rw [hd] at h2
              cases h2
              exact hb rfl)
          clear hb
          go_wp2
          go_roundw
          case rel => exact ⟨k + 1, by omega, by omega, by go_num, HOK2, HB5⟩
          case measure => simp [intOf]; omega
      · have b2 : ¬ (k : Int) < 30 := by omega
        have g12 : (12 : Int) < (n : Int) := by omega
        go_wp2
        go_ret
        exact .yes HB3.out
    · obtain rfl : k = n := by omega
      by_cases t1 : (12 : Int) < (k : Int)
      · go_wp2
        go_ret
        exact .yes HB3.out
      · by_cases t2 : (300 : Int) < (na.size : Int)
        · go_wp2
          go_ret
          exact .yes HB3.out
        · by_cases t3 : (300 : Int) < (tx.size : Int)
          · go_wp2
            go_ret
            exact .yes HB3.out
          · by_cases t4 : (300 : Int) < (ena.size : Int)
            · go_wp2
              go_ret
              exact .yes HB3.out
            · by_cases t5 : (300 : Int) < (etx.size : Int)
              · go_wp2
                go_ret
                exact .yes HB3.out
              · by_cases t6 : (300 : Int) < (sy.size : Int)
                · go_wp2
                  go_ret
                  exact .yes HB3.out
                · by_cases t7 : (300 : Int) < (esy.size : Int)
                  · go_wp2
                    go_ret
                    exact .yes HB3.out
                  · go_wp2
                    go_ret
                    refine .no HB3.out ⟨?_, ?_, ?_, ?_⟩
                    · show (ds.map Df.p).length ≤ 12
                      have := HWS.out
                      rw [List.length_map]; omega
                    · show na.size ≤ 300; omega
                    · show ena.size ≤ 300; omega
                    · intro x hx
                      obtain ⟨y, hy, rfl⟩ := List.mem_map.1 hx
                      obtain ⟨j, hj⟩ := List.getElem?_of_mem hy
                      exact HOK.out j y (by have := (List.getElem?_eq_some_iff.1 hj).1; have := HWS.out; dsimp only at *; omega) hj
set_option maxRecDepth 100000 in
set_option maxHeartbeats 4000000 in
theorem great17_any (A : Option Addr) (n c : Nat) (l : List Dc) (w : World) (h : DcsAt w A n l) : Calls Tryd.prog 6 #[.slice A n c] w (GreatTold (OkDcs (l.map Dc.pl)) w) := by
  have DS := Lib.hid h
  clear h
  go_enter Tryd.func6, Tryd.ntmps6
  go_wp2
  go_loopw [3] (fun i wr => ∃ k : Nat, k ≤ n ∧ k ≤ 30 ∧ i = .int .i64 k ∧ Hid (∀ j d, j < k → l[j]? = some d → OkDc d.pl) ∧ Hid (Below w.heap.size w wr)) (fun i _ => n - (intOf i).toNat)
  case atStart => exact ⟨0, by omega, by omega, rfl, fun j d hj => absurd hj (Nat.not_lt_zero _), Below.refl _ _⟩
  case round =>
    obtain ⟨k, hk, hk2, rfl, HOK, HB2⟩ := hrel
    by_cases hlt : k < n
    · have b1 : (k : Int) < (n : Int) := by omega
      by_cases h30 : k < 30
      · have b2 : (k : Int) < 30 := by omega
        have b0 : (0 : Int) ≤ (k : Int) := by omega
        obtain ⟨a, x, rfl, hx, g, hw⟩ := (DcsAt.below (w := w) DS.out HB2.out).2 k hlt
        obtain ⟨_, g0, g1, g2, g3, g4, g5, g6, g7, g8, g9, g10, g11, g12⟩ := g
        have C := Lib.hid (great16_any x wr hw)
        have HX := Lib.hid hx
        clear hx hw
        go_wp2_with fail
        refine C.out.mono ?_
        rintro e w3 ⟨b, rfl, hb, hB⟩
        have HB5 := Lib.hid (HB2.out.trans (hB.mono HB2.out.size))
        clear hB C
        cases b with
        | true =>
          clear hb
          go_wp2
          go_ret
          exact .yes HB5.out
        | false =>
          have HOK2 := Lib.hid (show ∀ j d, j < k + 1 → l[j]? = some d → OkDc d.pl from fun j d hj hd => by
            rcases Nat.lt_or_eq_of_le (Nat.lt_succ_iff.1 hj) with h1 | h1
            · exact HOK.out j d h1 hd
            · subst h1
              have h2 := HX.out
              rw [hd] at h2
              cases h2
              exact hb rfl)
          clear hb
          go_wp2
          go_roundw
          case rel => exact ⟨k + 1, by omega, by omega, by go_num, HOK2, HB5⟩
          case measure => simp [intOf]; omega
      · have b2 : ¬ (k : Int) < 30 := by omega
        have g16 : (16 : Int) < (n : Int) := by omega
        go_wp2
        go_ret
        exact .yes HB2.out
    · obtain rfl : k = n := by omega
      by_cases t1 : (16 : Int) < (k : Int)
      · go_wp2
        go_ret
        exact .yes HB2.out
      · go_wp2
        go_ret
        refine .no HB2.out ⟨by rw [List.length_map, DS.out.1]; omega, fun x hx => ?_⟩
        obtain ⟨y, hy, rfl⟩ := List.mem_map.1 hx
        obtain ⟨j, hj⟩ := List.getElem?_of_mem hy
        exact HOK.out j y (by have := (List.getElem?_eq_some_iff.1 hj).1; have := DS.out.1; omega) hj
end Go.Proofs.YtapjmfgpdkghlaaDoor
