/- The contracts of meter.Bytes, of a meter's Emit and Out, and of the reference's Spend and Emit. Conditions: events of at most 2^40 letters; numbers that Go can hold. -/
import Derived.Test.YtfkeceggiddlbaaGreatDoorMeterUse
import Derived.Test.YtfkeceggiddlbaaGreatDoorSatB
import Derived.Test.YtfkeceggiddlbaaGreatDoorEvGreat
namespace Go.Proofs.YtfkeceggiddlbaaGreatDoor
open Go.RowKit Go.Shelf Go.Proofs.YtfkeceggiddlbaaGreatDoor.CharsPlain Go.Proofs.YtfkeceggiddlbaaGreatDoor.UriPlain Go.Proofs.YtfkeceggiddlbaaGreatDoor.SatPlain
set_option linter.unusedVariables false
set_option linter.unusedSimpArgs false
set_option maxRecDepth 100000 in
set_option maxHeartbeats 2000000 in
theorem mbytes_any (e : Ev) (w : World) (hok : EvOk w e) (hs : e.size ≤ 1099511627776) :
    Calls Tryz.prog 14 #[.agg #[.int .i64 e.k, .string e.sp, .string e.lo, .slice e.A e.n e.c, .string e.tx]] w (TellI e.size w) := by
  obtain ⟨W, hW, hB0, c0, c1, c2, c3, c4⟩ := evBox w e 45
  have H := Lib.hid (hok.1.below hB0)
  have B := Lib.hid hB0
  have hz : e.size = e.sp.size + e.lo.size + e.tx.size + atSum e.ats := rfl
  have Z := Lib.hid hz
  have z1 : e.sp.size ≤ 1099511627776 := by omega
  have z2 : e.lo.size ≤ 1099511627776 := by omega
  have z3 : e.tx.size ≤ 1099511627776 := by omega
  have hn9 : e.n ≤ 9223372036854775807 := Nat.le_trans hok.2.1 hok.2.2
  clear hz hok hB0
  go_enter Tryz.func14, Tryz.ntmps14
  go_wp2
  clear hW
  go_loopw [3, 5, 22] (fun s _ i wr => ∃ (k : Nat), k ≤ e.n ∧ i = .int .i64 k ∧ s = .int .i64 ((e.sp.size + e.lo.size + e.tx.size + atSum (e.ats.take k) : Nat) : Int) ∧ Hid (Below W.heap.size W wr)) (fun _ _ i _ => e.n - (intOf i).toNat)
  case atStart => exact ⟨0, by omega, rfl, by simp [atSum], Below.refl _ _⟩
  case round =>
    obtain ⟨k, hk, rfl, rfl, HB⟩ := hrel
    by_cases hlt : k < e.n
    · obtain ⟨a, x, hA, hx, _, g0, g1, g2⟩ := (H.out.below HB.out).2 k hlt
      have b0 : (0 : Int) ≤ (k : Int) := by omega
      have b1 : (k : Int) < (e.n : Int) := by omega
      have hT := atSum_take _ _ _ hx
      have hle := atSum_le e.ats (k + 1)
      have hxs : x.size = x.sp.size + x.lo.size + x.va.size := rfl
      have hz := Z.out
      generalize hS : e.sp.size + e.lo.size + e.tx.size + atSum (e.ats.take k) = S at *
      have s1 : S + (x.sp.size + x.lo.size + x.va.size) ≤ 1099511627776 := by omega
      have E : Hid (((S : Int) + ((x.sp.size : Int) + x.lo.size + x.va.size)) = ((e.sp.size + e.lo.size + e.tx.size + atSum (e.ats.take (k + 1)) : Nat) : Int)) := by show _ = _; rw [hT, hxs]; omega
      clear hT hle hxs hz hx hS
      rw [hA]
      go_wp2
      go_roundw
      case rel => exact ⟨k + 1, by omega, by go_num, by rw [E.out], HB.out.alloc HB.out.size _⟩
      case measure => simp [intOf]; omega
    · obtain rfl : k = e.n := by omega
      go_wp2
      go_ret
      refine ⟨?_, B.out.trans (HB.out.mono B.out.size)⟩
      rw [Z.out, ← H.out.1, List.take_length]
      rfl
set_option maxRecDepth 100000 in
theorem mout_any (g : Nat) (n most on om deep wide doing : Int) (w : World) (h : MBlk g n most on om deep wide doing w) : Calls Tryz.prog 17 #[.pointer (some ⟨g, 0, none⟩)] w (RetI on w) := by
  obtain ⟨c0, c1, c2, c3, c4, c5, c6⟩ := h.cells
  clear h
  go_enter Tryz.func17, Tryz.ntmps17
  go_wp2
  go_ret
  exact ⟨rfl, rfl⟩
/-- What the reference's Spend and Emit tell: the meter behind, the error. -/
def TellRef (s o d k : Int) (w : World) (e : Ending) (w' : World) : Prop := e = .returned (.tuple #[.agg #[.int .i64 s, .int .i64 o, .int .i64 d], .int .i64 k]) ∧ Below w.heap.size w w'
set_option maxRecDepth 100000 in
set_option maxHeartbeats 2000000 in
theorem rspend_any (s o k a b c d e f : Int) (A : Option Addr) (n cp : Nat) (x : Int) (w : World) (hs : s ≤ 9223372036854775807) (hx : x ≤ 9223372036854775807) :
    Calls Tryz.prog 10 #[.agg #[.int .i64 s, .int .i64 o, .int .i64 k], cfgV a b c d e f A n cp, .int .i64 x] w (TellRef (spendN s a x) o k (spendE s a x) w) := by
  have C := Lib.hid (fun w' => radd_any s x w' hs hx)
  unfold spendN spendE
  generalize addS s x = t at C ⊢
  unfold cfgV cfgA
  by_cases h : a < t
  · have HN : Hid ((if a < t then s else t) = s) := if_pos h
    have HE : Hid ((if a < t then (11 : Int) else 0) = 11) := if_pos h
    go_enter Tryz.func10, Tryz.ntmps10
    go_wp2_with fail
    refine (C.out _).mono ?_
    rintro e0 w' ⟨rfl, rfl⟩
    go_wp2
    refine bodyPost_ret (v := .tuple #[.agg #[.int .i64 s, .int .i64 o, .int .i64 k], .int .i64 11]) (by simp [results, Tryz.results10, go_sem]) rfl ?_
    exact ⟨rfl, (((Below.refl _ _).alloc (Nat.le_refl _) _).alloc (by simp) _).alloc (by simp; omega) _⟩
  · have HN : Hid ((if a < t then s else t) = t) := if_neg h
    have HE : Hid ((if a < t then (11 : Int) else 0) = 0) := if_neg h
    go_enter Tryz.func10, Tryz.ntmps10
    go_wp2_with fail
    refine (C.out _).mono ?_
    rintro e0 w' ⟨rfl, rfl⟩
    go_wp2
    refine bodyPost_ret (v := .tuple #[.agg #[.int .i64 t, .int .i64 o, .int .i64 k], .int .i64 0]) (by simp [results, Tryz.results10, go_sem]) rfl ?_
    exact ⟨rfl, (((Below.refl _ _).alloc (Nat.le_refl _) _).alloc (by simp) _).alloc (by simp; omega) _⟩
/-- The reference's meter in memory. -/
def RBlk (b : Nat) (s o k : Int) (w : World) : Prop := w.heap[b]? = some (.cells #[.int .i64 s, .int .i64 o, .int .i64 k] 36 (0, 0))
theorem RBlk.lt {b : Nat} {s o k : Int} {w : World} (h : RBlk b s o k w) : b < w.heap.size := (Array.getElem?_eq_some_iff.1 h).1
theorem RBlk.below {b : Nat} {s o k : Int} {w w' : World} (h : RBlk b s o k w) (hb : Below w.heap.size w w') : RBlk b s o k w' := by
  have hl := h.lt
  unfold RBlk at *
  rw [hb.block b hl]; exact h
theorem RBlk.cells {b : Nat} {s o k : Int} {w : World} (h : RBlk b s o k w) : w.cell? ⟨b, 0, none⟩ = some (.int .i64 s) ∧ w.cell? ⟨b, 1, none⟩ = some (.int .i64 o) ∧ w.cell? ⟨b, 2, none⟩ = some (.int .i64 k) ∧ w.frozen? ⟨b, 0, none⟩ = false ∧ w.frozen? ⟨b, 1, none⟩ = false ∧ w.frozen? ⟨b, 2, none⟩ = false := by
  unfold RBlk at h
  exact ⟨by rw [Lib.cell_of_heap h]; rfl, by rw [Lib.cell_of_heap h]; rfl, by rw [Lib.cell_of_heap h]; rfl, Lib.frozen_of_heap h 0, Lib.frozen_of_heap h 1, Lib.frozen_of_heap h 2⟩
def emitO (o om z : Int) : Int := if om < o + z then o else o + z
def emitE (o om z : Int) : Int := if om < o + z then 11 else 0
def emitD (o om z k m : Int) : Int := if om < o + z then k else k + 1 + m
set_option maxRecDepth 100000 in
set_option maxHeartbeats 4000000 in
theorem remit_any (s o k a b c d e f : Int) (A : Option Addr) (n cp : Nat) (x : Ev) (w : World) (hok : EvOk w x) (hz : x.size ≤ 1099511627776) (hxn : x.n ≤ 1099511627776) (ho : 0 ≤ o) (ho2 : o ≤ 1099511627776) (hk : 0 ≤ k) (hk2 : k ≤ 1099511627776) :
    Calls Tryz.prog 12 #[.agg #[.int .i64 s, .int .i64 o, .int .i64 k], cfgV a b c d e f A n cp, .agg #[.int .i64 x.k, .string x.sp, .string x.lo, .slice x.A x.n x.c, .string x.tx]] w (TellRef s (emitO o b x.size) (emitD o b x.size k x.n) (emitE o b x.size) w) := by
  obtain ⟨W1, hW1⟩ : ∃ W, W = w.alloc (.cells #[.int .i64 s, .int .i64 o, .int .i64 k] 36) := ⟨_, rfl⟩
  obtain ⟨W2, hW2⟩ : ∃ W, W = W1.alloc (.cells (cfgA a b c d e f A n cp) 24) := ⟨_, rfl⟩
  obtain ⟨W3, hW3⟩ : ∃ W, W = W2.alloc (.cells #[.int .i64 x.k, .string x.sp, .string x.lo, .slice x.A x.n x.c, .string x.tx] 45) := ⟨_, rfl⟩
  obtain ⟨W4, hW4⟩ : ∃ W, W = W3.alloc (.cells #[.int .i64 0, .int .i64 0, .int .i64 0] 36) := ⟨_, rfl⟩
  have s1 : W1.heap.size = w.heap.size + 1 := by rw [hW1]; simp
  have s2 : W2.heap.size = w.heap.size + 2 := by rw [hW2]; simp; omega
  have s3 : W3.heap.size = w.heap.size + 3 := by rw [hW3]; simp; omega
  have s4 : W4.heap.size = w.heap.size + 4 := by rw [hW4]; simp; omega
  have B1 : Below w.heap.size w W1 := by rw [hW1]; exact (Below.refl _ _).alloc (Nat.le_refl _) _
  have B2 : Below W1.heap.size W1 W2 := by rw [hW2]; exact (Below.refl _ _).alloc (Nat.le_refl _) _
  have B3 : Below W2.heap.size W2 W3 := by rw [hW3]; exact (Below.refl _ _).alloc (Nat.le_refl _) _
  have B4 : Below W3.heap.size W3 W4 := by rw [hW4]; exact (Below.refl _ _).alloc (Nat.le_refl _) _
  have r1 : RBlk w.heap.size s o k W1 := by rw [hW1]; exact heap_alloc_new _ _
  have r4 : RBlk (w.heap.size + 3) 0 0 0 W4 := by rw [hW4, ← s3]; exact heap_alloc_new _ _
  have r14 : RBlk w.heap.size s o k W4 := ((r1.below B2).below B3).below B4
  have qb : W4.cell? ⟨w.heap.size + 1, 1, none⟩ = some (.int .i64 b) := by
    have : W2.cell? ⟨w.heap.size + 1, 1, none⟩ = some (.int .i64 b) := by rw [hW2, ← s1, World.cell?_alloc_mark]; rfl
    exact (B4.cell (p := ⟨w.heap.size + 1, 1, none⟩) (by show w.heap.size + 1 < W3.heap.size; omega)).trans ((B3.cell (p := ⟨w.heap.size + 1, 1, none⟩) (by show w.heap.size + 1 < W2.heap.size; omega)).trans this)
  have E3 : ∀ j, W4.cell? ⟨w.heap.size + 2, j, none⟩ = (#[.int .i64 x.k, .string x.sp, .string x.lo, .slice x.A x.n x.c, .string x.tx] : Array Value)[j]? := fun j => by
    rw [B4.cell (p := ⟨w.heap.size + 2, j, none⟩) (by show w.heap.size + 2 < W3.heap.size; omega), hW3, ← s2, World.cell?_alloc_mark]
  have e0 := E3 0
  have e1 := E3 1
  have e2 := E3 2
  have e3 := E3 3
  have e4 := E3 4
  simp at e0 e1 e2 e3 e4
  have BW : Below w.heap.size w W4 := ((B1.trans (B2.mono (by omega))).trans (B3.mono (by omega))).trans (B4.mono (by omega))
  have C := Lib.hid (fun w' hok' => evBytes_any x w' hok' hz)
  have HOK := Lib.hid (hok.below BW)
  have HW : Hid ((((w.alloc (.cells #[.int .i64 s, .int .i64 o, .int .i64 k] 36)).alloc (.cells (cfgA a b c d e f A n cp) 24)).alloc (.cells #[.int .i64 x.k, .string x.sp, .string x.lo, .slice x.A x.n x.c, .string x.tx] 45)).alloc (.cells #[.int .i64 0, .int .i64 0, .int .i64 0] 36) = W4) := by show _ = _; rw [hW4, hW3, hW2, hW1]
  obtain ⟨q0, q1, q2, -, -, -⟩ := r14.cells
  have HR4 := Lib.hid r4
  have HR14 := Lib.hid r14
  have HBW := Lib.hid BW
  have HS4 := Lib.hid s4
  have HX3 := Lib.hid e3
  have HQB := Lib.hid qb
  have hzn : (0 : Int) ≤ (x.size : Int) := by omega
  clear hW1 hW2 hW3 hW4 s1 s2 s3 s4 B1 B2 B3 B4 r1 r4 r14 E3 BW hok
  obtain ⟨z, hzz⟩ : ∃ z, z = x.size := ⟨_, rfl⟩
  rw [← hzz] at C hz hzn ⊢
  obtain ⟨xn, hxnn⟩ : ∃ xn, xn = x.n := ⟨_, rfl⟩
  clear hzz
  have ws : IntKind.i64.wrap (o + (z : Int)) = o + z := IntWalk.i64_in _ (by omega)
  unfold cfgV
  unfold cfgA at *
  go_enter Tryz.func12, Tryz.ntmps12
  go_wp2_with fail
  rw [HW.out]
  go_region_held3 (fun W => W.cell? ⟨w.heap.size, 1, none⟩ = some (.int .i64 o) ∧ W.cell? ⟨w.heap.size + 2, 0, none⟩ = some (.int .i64 x.k) ∧ W.cell? ⟨w.heap.size + 2, 1, none⟩ = some (.string x.sp) ∧ W.cell? ⟨w.heap.size + 2, 2, none⟩ = some (.string x.lo) ∧ W.cell? ⟨w.heap.size + 2, 3, none⟩ = some (.slice x.A x.n x.c) ∧ W.cell? ⟨w.heap.size + 2, 4, none⟩ = some (.string x.tx)) (first | exact hK | exact ⟨q1, e0, e1, e2, e3, e4⟩)
    (first
    | (go_at_call 15; refine (C.out _ (HOK.out.below (below_drew _ _))).mono ?_; rintro y w5 ⟨rfl, hb5⟩; have HB5 : Below W4.heap.size W4 w5 := (below_drew _ _).trans hb5; have hK : w5.cell? ⟨w.heap.size, 1, none⟩ = some (.int .i64 o) ∧ w5.cell? ⟨w.heap.size + 2, 0, none⟩ = some (.int .i64 x.k) ∧ w5.cell? ⟨w.heap.size + 2, 1, none⟩ = some (.string x.sp) ∧ w5.cell? ⟨w.heap.size + 2, 2, none⟩ = some (.string x.lo) ∧ w5.cell? ⟨w.heap.size + 2, 3, none⟩ = some (.slice x.A x.n x.c) ∧ w5.cell? ⟨w.heap.size + 2, 4, none⟩ = some (.string x.tx) := ⟨(HB5.cell (p := ⟨w.heap.size, 1, none⟩) (by show w.heap.size < W4.heap.size; have := HS4.out; omega)).trans q1, (HB5.cell (p := ⟨w.heap.size + 2, 0, none⟩) (by show w.heap.size + 2 < W4.heap.size; have := HS4.out; omega)).trans e0, (HB5.cell (p := ⟨w.heap.size + 2, 1, none⟩) (by show w.heap.size + 2 < W4.heap.size; have := HS4.out; omega)).trans e1, (HB5.cell (p := ⟨w.heap.size + 2, 2, none⟩) (by show w.heap.size + 2 < W4.heap.size; have := HS4.out; omega)).trans e2, (HB5.cell (p := ⟨w.heap.size + 2, 3, none⟩) (by show w.heap.size + 2 < W4.heap.size; have := HS4.out; omega)).trans e3, (HB5.cell (p := ⟨w.heap.size + 2, 4, none⟩) (by show w.heap.size + 2 < W4.heap.size; have := HS4.out; omega)).trans e4⟩; clear hb5))
  have hr4 : RBlk (w.heap.size + 1 + 1 + 1) 0 0 0 w5 := HR4.out.below HB5
  obtain ⟨p0, p1, p2, y0, y1, y2⟩ := hr4.cells
  obtain ⟨m0, m1, m2, j0, j1, j2⟩ := (HR14.out.below HB5).cells
  have nb : w5.cell? ⟨w.heap.size + 1, 1, none⟩ = some (.int .i64 b) := (HB5.cell (p := ⟨w.heap.size + 1, 1, none⟩) (by show w.heap.size + 1 < W4.heap.size; have := HS4.out; omega)).trans HQB.out
  have n3 : w5.cell? ⟨w.heap.size + 1 + 1, 3, none⟩ = some (.slice x.A x.n x.c) := hK.2.2.2.2.1
  have HBF := Lib.hid (HBW.out.trans (HB5.mono HBW.out.size))
  clear hr4 hK q0 q1 q2 e0 e1 e2 e3 e4 qb HW C HOK HR4 HR14 HB5 HQB HX3
  have hsum1 : o + (z : Int) ≤ 9223372036854775807 := by omega
  have hsum2 : -9223372036854775808 ≤ o + (z : Int) := by omega
  by_cases h : b < o + (z : Int)
  · have HN : Hid (emitO o b z = o) := if_pos h
    have HD : Hid (emitD o b z k x.n = k) := if_pos h
    have HE : Hid (emitE o b z = 11) := if_pos h
    go_wp2
    refine bodyPost_ret (v := .tuple #[.agg #[.int .i64 s, .int .i64 o, .int .i64 k], .int .i64 11]) (by simp [results, Tryz.results12, go_sem, p0, p1, p2]) rfl ?_
    rw [HN.out, HD.out, HE.out]
    refine ⟨rfl, ?_⟩
    exact (((HBF.out.setCell (p := ⟨w.heap.size + 1 + 1 + 1, 0, none⟩) (show w.heap.size ≤ w.heap.size + 1 + 1 + 1 by omega) _).setCell (p := ⟨w.heap.size + 1 + 1 + 1, 1, none⟩) (show w.heap.size ≤ w.heap.size + 1 + 1 + 1 by omega) _).setCell (p := ⟨w.heap.size + 1 + 1 + 1, 2, none⟩) (show w.heap.size ≤ w.heap.size + 1 + 1 + 1 by omega) _)
  · have HN : Hid (emitO o b z = o + z) := if_neg h
    have HD : Hid (emitD o b z k x.n = k + 1 + x.n) := if_neg h
    have HE : Hid (emitE o b z = 0) := if_neg h
    go_wp2
    refine bodyPost_ret (v := .tuple #[.agg #[.int .i64 s, .int .i64 (o + z), .int .i64 (k + 1 + x.n)], .int .i64 0]) (by simp [results, Tryz.results12, go_sem, p0, p1, p2]) rfl ?_
    rw [HN.out, HD.out, HE.out]
    refine ⟨rfl, ?_⟩
    exact (((((HBF.out.setCell (p := ⟨w.heap.size, 1, none⟩) (Nat.le_refl _) _).setCell (p := ⟨w.heap.size, 2, none⟩) (Nat.le_refl _) _).setCell (p := ⟨w.heap.size + 1 + 1 + 1, 0, none⟩) (show w.heap.size ≤ w.heap.size + 1 + 1 + 1 by omega) _).setCell (p := ⟨w.heap.size + 1 + 1 + 1, 1, none⟩) (show w.heap.size ≤ w.heap.size + 1 + 1 + 1 by omega) _).setCell (p := ⟨w.heap.size + 1 + 1 + 1, 2, none⟩) (show w.heap.size ≤ w.heap.size + 1 + 1 + 1 by omega) _)
end Go.Proofs.YtfkeceggiddlbaaGreatDoor
