/- The page's example of layer 19 holds. Conditions: the tables of chars and of utf hold what the text gives them. -/
import Derived.Test.YtignndcjblfocaaDoorGraphOf
import Derived.Test.YtignndcjblfocaaDoorGraphDepths
namespace Go.Proofs.YtignndcjblfocaaDoor
set_option linter.unusedVariables false
open Go.RowKit Go.Maps Go.Proofs.YtignndcjblfocaaDoor.GraphPlain Go.Proofs.YtignndcjblfocaaDoor.RefPlain
def entA : Ent := ⟨⟨#[97]⟩, ⟨#[38, 98, 59]⟩, false, ⟨#[]⟩, ⟨#[]⟩, ⟨#[]⟩⟩
def entB : Ent := ⟨⟨#[98]⟩, ⟨#[120]⟩, false, ⟨#[]⟩, ⟨#[]⟩, ⟨#[]⟩⟩
theorem live_names : (innerN [entA, entB]).map Ent.na = [⟨#[97]⟩, ⟨#[98]⟩] := by decide +kernel
theorem live_graph : entG [entA, entB] = [[1], []] := by decide +kernel
theorem live_order : orderN [[1], []] = [1, 0] := by decide +kernel
theorem live_depths : deepO [[1], []] [1, 0] = [2, 1] := by decide +kernel
theorem live_ok : okG [[1], []] := by
  have := entG_ok [entA, entB]
  rwa [live_graph] at this
theorem below_drawn (n : Nat) (w : World) (d : Nat) : Below n w (w.drewN d) := ⟨rfl, rfl, rfl, Nat.le_refl _, fun _ _ => rfl⟩
theorem intsB (A : Option Addr) (n c : Nat) (l : List Int) (A' : Option Addr) (n' c' : Nat) (m : List Int) (w : World) (hl : IntsAt w A n l) (hm : IntsAt w A' n' m) (hn : n ≤ 9223372036854775807) :
    Calls Tryd.prog 13 #[.slice A n c, .slice A' n' c'] w (fun e w' => e = .returned (.bool (decide (l = m))) ∧ Below w.heap.size w w') :=
  (ints_any A n c l A' n' c' m w hl hm hn).mono fun e w' ⟨h1, d, h2⟩ => ⟨h1, h2 ▸ below_drawn _ w d⟩
theorem intsYes (A : Option Addr) (n c : Nat) (l : List Int) (A' : Option Addr) (n' c' : Nat) (w : World) (hl : IntsAt w A n l) (hm : IntsAt w A' n' l) (hn : n ≤ 9223372036854775807) :
    Calls Tryd.prog 13 #[.slice A n c, .slice A' n' c'] w (fun e w' => e = .returned (.bool true) ∧ Below w.heap.size w w') :=
  (intsB A n c l A' n' c' l w hl hm hn).mono fun e w' ⟨h1, h2⟩ => ⟨by rw [h1, decide_eq_true rfl], h2⟩
theorem intsLit (w : World) (t : TypeId) (l : List Int) : IntsAt (w.alloc (.cells (numCells l).toArray t)) (some ⟨w.heap.size, 0, none⟩) l.length l := by
  have hh := heap_alloc_new w (.cells (numCells l).toArray t)
  refine ⟨rfl, fun k hk => ⟨_, l[k], rfl, List.getElem?_eq_getElem hk, by simp, ?_⟩⟩
  rw [addT, Lib.cell_of_heap hh]
  simp [numCells, hk]
theorem natInts {w : World} {base : Nat} {e : TypeId} {A : Option Addr} {c n : Nat} {l : List Nat} (hn : n = l.length) (h : w.ownsRow base e 1 (.slice A n c) n (natCells l)) : IntsAt w A n (l.map Int.ofNat) := by
  subst hn
  have e1 : natCells l = numCells (l.map Int.ofNat) := by simp [natCells, numCells]
  have e2 : l.length = (l.map Int.ofNat).length := by simp
  rw [e1, e2] at h
  have := IntsAt.of_own h
  rwa [← e2] at this
theorem intG_live : intG [[1], []] = [[1], []] := rfl
set_option maxRecDepth 100000 in
set_option maxHeartbeats 4000000 in
theorem live19_any (w : World) (hf : FormsAt w) (ht : Tabs w) : Calls Tryd.prog 8 #[] w fun e w' => e = .returned (.bool true) ∧ Below w.heap.size w w' := by
  have HF := Lib.hid hf
  have HT := Lib.hid ht
  clear hf ht
  go_enter Tryd.func8, Tryd.ntmps8
  go_wp2_with fail
  have hW : Below w.heap.size w (w.alloc (.cells #[.string ⟨#[97]⟩, .string ⟨#[38, 98, 59]⟩, .bool false, .string ⟨#[]⟩, .string ⟨#[]⟩, .string ⟨#[]⟩, .string ⟨#[98]⟩, .string ⟨#[120]⟩, .bool false, .string ⟨#[]⟩, .string ⟨#[]⟩, .string ⟨#[]⟩] 50)) := (Below.refl _ w).alloc (Nat.le_refl _) _
  have hE : EntsAt (w.alloc (.cells #[.string ⟨#[97]⟩, .string ⟨#[38, 98, 59]⟩, .bool false, .string ⟨#[]⟩, .string ⟨#[]⟩, .string ⟨#[]⟩, .string ⟨#[98]⟩, .string ⟨#[120]⟩, .bool false, .string ⟨#[]⟩, .string ⟨#[]⟩, .string ⟨#[]⟩] 50)) (some ⟨w.heap.size, 0, none⟩) 2 [entA, entB] := by
    have hh := heap_alloc_new w (.cells #[.string ⟨#[97]⟩, .string ⟨#[38, 98, 59]⟩, .bool false, .string ⟨#[]⟩, .string ⟨#[]⟩, .string ⟨#[]⟩, .string ⟨#[98]⟩, .string ⟨#[120]⟩, .bool false, .string ⟨#[]⟩, .string ⟨#[]⟩, .string ⟨#[]⟩] 50)
    have hl : w.heap.size < (w.alloc (.cells #[.string ⟨#[97]⟩, .string ⟨#[38, 98, 59]⟩, .bool false, .string ⟨#[]⟩, .string ⟨#[]⟩, .string ⟨#[]⟩, .string ⟨#[98]⟩, .string ⟨#[120]⟩, .bool false, .string ⟨#[]⟩, .string ⟨#[]⟩, .string ⟨#[]⟩] 50)).heap.size := by simp
    generalize w.alloc _ = W at *
    refine ⟨rfl, fun i hi => ⟨_, [entA, entB][i], rfl, List.getElem?_eq_getElem hi, ?_⟩⟩
    have a0 : (⟨w.heap.size, 0, none⟩ : Addr).add 0 = ⟨w.heap.size, 0, none⟩ := addT _ _
    have a6 : (⟨w.heap.size, 0, none⟩ : Addr).add 6 = ⟨w.heap.size, 6, none⟩ := addT _ _
    match i, hi with
    | 0, _ => rw [show 0 * 6 = 0 from rfl, a0]; exact ⟨hl, by rw [Lib.cell_of_heap hh]; rfl, by rw [Lib.cell_of_heap hh]; rfl, by rw [Lib.cell_of_heap hh]; rfl, by rw [Lib.cell_of_heap hh]; rfl, by rw [Lib.cell_of_heap hh]; rfl, by rw [Lib.cell_of_heap hh]; rfl⟩
    | 1, _ => rw [show 1 * 6 = 6 from rfl, a6]; exact ⟨hl, by rw [Lib.cell_of_heap hh]; rfl, by rw [Lib.cell_of_heap hh]; rfl, by rw [Lib.cell_of_heap hh]; rfl, by rw [Lib.cell_of_heap hh]; rfl, by rw [Lib.cell_of_heap hh]; rfl, by rw [Lib.cell_of_heap hh]; rfl⟩
  have C := Lib.hid (of_any _ 2 2 _ _ hE (by decide) (by intro e he; rcases List.mem_cons.1 he with rfl | he; exact ⟨by decide, by decide⟩; rcases List.mem_cons.1 he with rfl | he; exact ⟨by decide, by decide⟩; cases he) (HF.out.below hW HF.out.size) (HT.out.below hW HT.out.size))
  rw [live_names, live_graph] at C
  have HW := Lib.hid hW
  clear hE hW
  refine C.out.mono ?_
  rintro e w1 ⟨An, cn, At, ct, rfl, hts, hgr, hB1⟩
  clear C
  have H1 := Lib.hid (HW.out.trans (hB1.mono (by simp)))
  clear hB1 HW
  obtain ⟨W, hW, hB, hz, c0, c1⟩ := grBox w1 An 2 cn At 2 ct 28
  have HG := Lib.hid (hgr.below hB)
  have HB := Lib.hid (H1.out.trans (hB.mono H1.out.size))
  clear hts hgr hB
  have HR : Hid (∀ r ∈ intG [[1], []], r.length ≤ 9223372036854775806) := by
    intro r hr; rw [intG_live] at hr
    rcases List.mem_cons.1 hr with rfl | hr
    · decide
    rcases List.mem_cons.1 hr with rfl | hr
    · decide
    cases hr
  have C1 := order_good An 2 cn At 2 ct [[1], []] W HG.out live_ok HR.out (by decide) (by decide)
  rw [live_order] at C1
  have C1 := Lib.hid C1
  unfold grV at C1 ⊢
  go_wp2_with fail
  refine C1.out.mono ?_
  rintro e w2 ⟨h, hB2⟩
  rcases h with h | ⟨_, A2, c2, rfl, hown⟩
  · exact absurd h.1 (by decide)
  have c0' := (hB2.cell (p := ⟨w1.heap.size, 0, none⟩) (by show w1.heap.size < _; omega)).trans c0
  have c1' := (hB2.cell (p := ⟨w1.heap.size, 1, none⟩) (by show w1.heap.size < _; omega)).trans c1
  have HL := Lib.hid (natInts rfl hown)
  have HG2 := Lib.hid (HG.out.below hB2)
  have hz2 := hB2.size
  have HB2 := Lib.hid (HB.out.trans (hB2.mono (by have := HB.out.size; omega)))
  have C2 := depths_good An 2 cn At 2 ct [[1], []] w2 HG2.out live_ok HR.out (by decide) (by decide)
  rw [live_order, live_depths] at C2
  have C2 := Lib.hid C2
  unfold grV at C2
  clear hown hB2 c0 c1 C1 HG HB
  go_wp2_with fail
  refine C2.out.mono ?_
  rintro e w3 ⟨h, hB3⟩
  rcases h with h | ⟨_, A3, c3, rfl, hown⟩
  · exact absurd h.1 (by decide)
  have c0'' := (hB3.cell (p := ⟨w1.heap.size, 0, none⟩) (by show w1.heap.size < _; omega)).trans c0'
  have c1'' := (hB3.cell (p := ⟨w1.heap.size, 1, none⟩) (by show w1.heap.size < _; omega)).trans c1'
  have HD := Lib.hid (natInts rfl hown)
  have HL3 := Lib.hid (HL.out.below hB3)
  have HG3 := Lib.hid (HG2.out.below hB3)
  have HB3 := Lib.hid (HB2.out.trans (hB3.mono (by have := HB2.out.size; omega)))
  clear hown hB3 c0' c1' C2 HG2 HB2 HL
  obtain ⟨a, B, r, cr, ha, hr, hab, g0, hi⟩ := HG3.out.2 0 (by decide)
  subst ha
  obtain rfl : r = [1] := by rw [intG_live] at hr; simpa using hr.symm
  have a0 : a.add 0 = a := rfl
  rw [a0] at g0
  have HI := Lib.hid (hi.below ((Below.refl _ w3).alloc (Nat.le_refl _) (.cells #[.int .i64 1] 3)))
  have HI2 := Lib.hid (intsLit w3 3 [1])
  have HB4 := Lib.hid (HB3.out.trans (((Below.refl _ w3).alloc (Nat.le_refl _) (.cells #[.int .i64 1] 3)).mono HB3.out.size))
  have HL4 := Lib.hid (HL3.out.below ((Below.refl _ w3).alloc (Nat.le_refl _) (.cells #[.int .i64 1] 3)))
  have HD4 := Lib.hid (HD.out.below ((Below.refl _ w3).alloc (Nat.le_refl _) (.cells #[.int .i64 1] 3)))
  clear hr hi
  go_wp2_with fail
  refine (intsYes B 1 cr [1] (some ⟨w3.heap.size, 0, none⟩) 1 1 _ HI.out HI2.out (by decide)).mono ?_
  rintro e w4 ⟨rfl, hB⟩
  have HB5 := Lib.hid (HB4.out.trans (hB.mono HB4.out.size))
  have HL5 := Lib.hid ((HL4.out.below hB).below ((Below.refl _ w4).alloc (Nat.le_refl _) (.cells #[.int .i64 1, .int .i64 0] 3)))
  have HD5 := Lib.hid ((HD4.out.below hB).below ((Below.refl _ w4).alloc (Nat.le_refl _) (.cells #[.int .i64 1, .int .i64 0] 3)))
  have HB6 := Lib.hid (HB5.out.trans (((Below.refl _ w4).alloc (Nat.le_refl _) (.cells #[.int .i64 1, .int .i64 0] 3)).mono HB5.out.size))
  have HI3 := Lib.hid (intsLit w4 3 [1, 0])
  clear hB HI HI2 HB3 HB4 HL3 HL4 HD HD4
  go_wp2_with fail
  refine (intsYes A2 2 c2 [1, 0] (some ⟨w4.heap.size, 0, none⟩) 2 2 _ HL5.out HI3.out (by decide)).mono ?_
  rintro e w5 ⟨rfl, hB⟩
  have HB7 := Lib.hid (HB6.out.trans (hB.mono HB6.out.size))
  have HD6 := Lib.hid ((HD5.out.below hB).below ((Below.refl _ w5).alloc (Nat.le_refl _) (.cells #[.int .i64 2, .int .i64 1] 3)))
  have HB8 := Lib.hid (HB7.out.trans (((Below.refl _ w5).alloc (Nat.le_refl _) (.cells #[.int .i64 2, .int .i64 1] 3)).mono HB7.out.size))
  have HI4 := Lib.hid (intsLit w5 3 [2, 1])
  clear hB HI3 HB5 HB6 HL5 HD5
  go_wp2_with fail
  refine (intsYes A3 2 c3 [2, 1] (some ⟨w5.heap.size, 0, none⟩) 2 2 _ HD6.out HI4.out (by decide)).mono ?_
  rintro e w6 ⟨rfl, hB⟩
  have HB9 := Lib.hid (HB8.out.trans (hB.mono HB8.out.size))
  clear hB HI4 HB7 HB8 HD6
  go_wp2
  go_ret
  exact ⟨rfl, HB9.out⟩
end Go.Proofs.YtignndcjblfocaaDoor
