/- The page's example of layer 47 holds. Conditions: the tables of chars and of utf hold what the text gives them. -/
import Derived.Test.YtlifdmehejehjaaDoorQParse
import Derived.Test.YtlifdmehejehjaaDoorQMatch
namespace Go.Proofs.YtlifdmehejehjaaDoor
open Go.RowKit Go.Proofs.YtlifdmehejehjaaDoor.QPlain Go.Proofs.YtlifdmehejehjaaDoor.UtfPlain Go.Proofs.YtlifdmehejehjaaDoor.NamePlain
set_option linter.unusedVariables false
set_option linter.unusedSimpArgs false
def stsL : List StN := [⟨false, false, ⟨#[97]⟩⟩, ⟨false, true, ⟨#[]⟩⟩, ⟨false, false, ⟨#[99]⟩⟩]
theorem live_parse : parseN ⟨#[97, 47, 42, 42, 47, 99]⟩ = (stsL, 0) := by kernel_rfl
theorem live_m1 : matchN stsL [⟨#[97]⟩, ⟨#[99]⟩] = true := by kernel_rfl
theorem live_m2 : matchN stsL [⟨#[97]⟩, ⟨#[98]⟩, ⟨#[98]⟩, ⟨#[99]⟩] = true := by kernel_rfl
theorem live_m3 : matchN stsL [⟨#[97]⟩, ⟨#[98]⟩] = false := by kernel_rfl
theorem ts_lit (w : World) (l : List ByteArray) (g : Nat) (hg : g = w.heap.size) : TsAt (w.alloc (.cells (txtCells l).toArray 9)) (some ⟨g, 0, none⟩) l.length l := by
  subst hg
  have hh := heap_alloc_new w (.cells (txtCells l).toArray 9)
  refine ⟨rfl, fun i hi => ⟨_, l[i], rfl, List.getElem?_eq_getElem hi, by simp, ?_⟩⟩
  rw [addGQ, Lib.cell_of_heap hh]
  simp [txtCells, hi]
set_option maxRecDepth 100000 in
set_option maxHeartbeats 4000000 in
theorem live47_any (w : World) (hf : FormsAt w) (ht : Tabs w) : Calls Tryd.prog 8 #[] w (BelB true w) := by
  have C := qparse_any ⟨#[97, 47, 42, 42, 47, 99]⟩ w (by decide) hf ht
  rw [live_parse] at C
  have C := Lib.hid C
  clear hf ht
  go_enter Tryd.func8, Tryd.ntmps8
  go_wp2_with fail
  refine C.out.mono ?_
  rintro e w1 ⟨A, c, rfl, hc1, hc2, hrow, hB1⟩
  have hs := StsAt.of_own hrow
  have HS := Lib.hid hs
  have HB1 := Lib.hid hB1
  have k1 := ts_lit w1 [⟨#[97]⟩, ⟨#[99]⟩] w1.heap.size rfl
  have b1 : Below w1.heap.size w1 (w1.alloc (.cells (txtCells [⟨#[97]⟩, ⟨#[99]⟩]).toArray 9)) := (Below.refl _ _).alloc (Nat.le_refl _) _
  have M1 := qmatch_any A 3 c stsL _ 2 2 _ _ (by decide) (by decide) (hs.below b1) k1
  rw [live_m1] at M1
  have M1 := Lib.hid M1
  have BB1 := Lib.hid (hB1.trans (b1.mono hB1.size))
  clear hrow hB1 hs k1 b1 C hc1
  go_wp2_with fail
  refine M1.out.mono ?_
  rintro e w2 ⟨rfl, hB2⟩
  have HB2 := Lib.hid (BB1.out.trans (hB2.mono BB1.out.size))
  have hs := HS.out.below (((Below.refl _ _).alloc (Nat.le_refl _) _).trans (hB2.mono (by simp)))
  have k1 := ts_lit w2 [⟨#[97]⟩, ⟨#[98]⟩, ⟨#[98]⟩, ⟨#[99]⟩] w2.heap.size rfl
  have b1 : Below w2.heap.size w2 (w2.alloc (.cells (txtCells [⟨#[97]⟩, ⟨#[98]⟩, ⟨#[98]⟩, ⟨#[99]⟩]).toArray 9)) := (Below.refl _ _).alloc (Nat.le_refl _) _
  have HS2 := Lib.hid hs
  have M2 := qmatch_any A 3 c stsL _ 4 4 _ _ (by decide) (by decide) (hs.below b1) k1
  rw [live_m2] at M2
  have M2 := Lib.hid M2
  have BB2 := Lib.hid (HB2.out.trans (b1.mono HB2.out.size))
  clear hB2 hs k1 b1 M1
  go_wp2_with fail
  refine M2.out.mono ?_
  rintro e w3 ⟨rfl, hB3⟩
  have HB3 := Lib.hid (BB2.out.trans (hB3.mono BB2.out.size))
  have hs := HS2.out.below (((Below.refl _ _).alloc (Nat.le_refl _) _).trans (hB3.mono (by simp)))
  have k1 := ts_lit w3 [⟨#[97]⟩, ⟨#[98]⟩] w3.heap.size rfl
  have b1 : Below w3.heap.size w3 (w3.alloc (.cells (txtCells [⟨#[97]⟩, ⟨#[98]⟩]).toArray 9)) := (Below.refl _ _).alloc (Nat.le_refl _) _
  have M3 := qmatch_any A 3 c stsL _ 2 2 _ _ (by decide) (by decide) (hs.below b1) k1
  rw [live_m3] at M3
  have M3 := Lib.hid M3
  have BB3 := Lib.hid (HB3.out.trans (b1.mono HB3.out.size))
  clear hB3 hs k1 b1 M2
  go_wp2_with fail
  refine M3.out.mono ?_
  rintro e w4 ⟨rfl, hB4⟩
  have HB4 := Lib.hid (BB3.out.trans (hB4.mono BB3.out.size))
  clear hB4 M3
  go_wp2
  go_ret
  exact ⟨rfl, HB4.out⟩
end Go.Proofs.YtlifdmehejehjaaDoor
