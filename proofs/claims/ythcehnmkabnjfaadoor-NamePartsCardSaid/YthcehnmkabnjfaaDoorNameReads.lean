/- The walk of NameReads, and the page's example. Conditions: the tables of chars and of utf hold what the text gives them. -/
import Derived.Test.YthcehnmkabnjfaaDoorNameCut
import Derived.Lib.SlBytesConst
namespace Go.Proofs.YthcehnmkabnjfaaDoor
open Go.RowKit Go.Proofs.YthcehnmkabnjfaaDoor.UtfPlain Go.Proofs.YthcehnmkabnjfaaDoor.CharsPlain Go.Proofs.YthcehnmkabnjfaaDoor.NamePlain
theorem bytesAt_mark (w : World) (xs : List Int) (fr : Nat × Nat) (hx : ∀ x ∈ xs, 0 ≤ x ∧ x ≤ 255) : BytesAt (w.alloc (.cells (byteCells xs).toArray 5 fr)) (some ⟨w.heap.size, 0, none⟩) xs.length xs := by
  refine ⟨rfl, fun k hk => ?_⟩
  have hb := hx _ (List.getElem_mem hk)
  refine ⟨_, xs[k], rfl, List.getElem?_eq_getElem hk, hb.1, hb.2, by simp, ?_⟩
  have ha : (⟨w.heap.size, 0, none⟩ : Addr).add k = ⟨w.heap.size, k, none⟩ := by unfold Addr.add; split <;> simp_all
  rw [ha, World.cell?_alloc_mark]
  simp [byteCells, hk]
def liveB : List Int := [97, 98, 58, 99, 61, 49]
theorem live5_1 : readN liveB false 0 = ([97, 98, 58, 99], 4, 0) := by decide +kernel
theorem live5_2 : readN liveB true 0 = ([97, 98], 2, 0) := by decide +kernel
theorem live5_3 : partS ⟨#[97, 98, 58, 99]⟩ = (⟨#[97, 98]⟩, ⟨#[99]⟩, 0) := by decide +kernel
theorem live5_4 : partS ⟨#[97, 58]⟩ = (⟨#[]⟩, ⟨#[]⟩, 9) := by decide +kernel
theorem live5_5 : strOfNums [97, 98, 58, 99] = ⟨#[97, 98, 58, 99]⟩ := by decide +kernel
theorem live5_6 : strOfNums [97, 98] = ⟨#[97, 98]⟩ := by decide +kernel
set_option maxRecDepth 100000 in
set_option maxHeartbeats 4000000 in
theorem live5_any (w : World) (hf : FormsAt w) (ht : Tabs w) : Calls Tryd.prog 8 #[] w (BelB true w) := by
  have HF := Lib.hid hf
  have HT := Lib.hid ht
  have kc := fun (w : World) (C : Array Value) (n c : Nat) => Lib.run_convert_bytes_const (P := Tryd.prog) w 23 5 C n c Tryd.underlying23 Tryd.underlying5
  clear hf ht
  go_enter Tryd.func8, Tryd.ntmps8
  go_wp2_with fail
  have hB0 : Below w.heap.size w (w.alloc (.cells (byteCells liveB).toArray 5 (6, 7))) := (Below.refl _ w).alloc (Nat.le_refl _) _
  have hE := bytesAt_mark w liveB (6, 7) (by decide)
  have N1 := nameAt_any (some ⟨w.heap.size, 0, none⟩) 6 6 0 liveB _ (by omega) (by omega) (by omega) hE (HF.out.below hB0 HF.out.size) (HT.out.below hB0 HT.out.size)
  rw [live5_1] at N1
  unfold TellRead at N1
  simp only [live5_5] at N1
  have BX := Lib.hid hE
  have HB0 := Lib.hid hB0
  have NN := Lib.hid N1
  clear hE hB0 N1
  refine NN.out.mono ?_
  rintro e w1 ⟨rfl, hB1⟩
  have HB1 := Lib.hid hB1
  have HC1 := Lib.hid (HB0.out.trans (hB1.mono HB0.out.size))
  clear hB1 NN
  go_wp2_with fail
  have N2 := plainAt_any (some ⟨w.heap.size, 0, none⟩) 6 6 0 liveB w1 (by omega) (by omega) (by omega) (BX.out.below HB1.out) (HF.out.below HC1.out HF.out.size) (HT.out.below HC1.out HT.out.size)
  rw [live5_2] at N2
  unfold TellRead at N2
  simp only [live5_6] at N2
  have NN := Lib.hid N2
  clear N2
  refine NN.out.mono ?_
  rintro e w2 ⟨rfl, hB2⟩
  have HC2 := Lib.hid (HC1.out.trans (hB2.mono HC1.out.size))
  clear hB2 NN
  go_wp2_with fail
  have N3 := part_any ⟨#[97, 98, 58, 99]⟩ w2 (by decide) (HF.out.below HC2.out HF.out.size) (HT.out.below HC2.out HT.out.size)
  rw [live5_3] at N3
  have NN := Lib.hid N3
  clear N3
  refine NN.out.mono ?_
  rintro e w3 ⟨rfl, hB3⟩
  have HC3 := Lib.hid (HC2.out.trans (hB3.mono HC2.out.size))
  clear hB3 NN
  go_wp2_with fail
  have N4 := part_any ⟨#[97, 58]⟩ w3 (by decide) (HF.out.below HC3.out HF.out.size) (HT.out.below HC3.out HT.out.size)
  rw [live5_4] at N4
  have NN := Lib.hid N4
  clear N4
  refine NN.out.mono ?_
  rintro e w4 ⟨rfl, hB4⟩
  go_wp2
  go_ret
  exact ⟨rfl, HC3.out.trans (hB4.mono HC3.out.size)⟩
set_option maxRecDepth 100000 in
set_option maxHeartbeats 4000000 in
theorem nameReads_any (A : Option Addr) (n cp : Nat) (at_ : Int) (xs : List Int) (w : World) (hcp : n ≤ cp) (hcp2 : cp ≤ 9223372036854775807) (hb : BytesAt w A n xs) (hf : FormsAt w) (ht : Tabs w) :
    Calls Tryd.prog 4 #[.slice A n cp, .int .i64 at_] w (BelB true w) := by
  have BX := Lib.hid hb
  have HF := Lib.hid hf
  have HT := Lib.hid ht
  clear hf ht hb
  by_cases hn : 2000 < n
  · have t0 : decide ((2000 : Int) < (n : Int)) = true := by simp; omega
    go_enter Tryd.func4, Tryd.ntmps4
    go_wp2_with fail
    refine (live5_any _ HF.out HT.out).mono ?_
    rintro e w' ⟨rfl, hB⟩
    go_wp2
    go_ret
    exact ⟨rfl, hB⟩
  · have t0 : decide ((2000 : Int) < (n : Int)) = false := by simp; omega
    have hn1 : n ≤ 140737488355328 := by omega
    clear hn
    obtain ⟨a1, a2, a3, hr1⟩ : ∃ a b c, readN xs false at_ = (a, b, c) := ⟨_, _, _, rfl⟩
    obtain ⟨b1, b2, b3, hr2⟩ : ∃ a b c, readN xs true at_ = (a, b, c) := ⟨_, _, _, rfl⟩
    have R1 := Lib.hid hr1
    have R2 := Lib.hid hr2
    clear hr1 hr2
    go_enter Tryd.func4, Tryd.ntmps4
    go_wp2_with fail
    have N1 := nameAt_any A n cp at_ xs w hn1 hcp hcp2 BX.out HF.out HT.out
    rw [R1.out] at N1
    have NN := Lib.hid N1
    clear N1
    refine NN.out.mono ?_
    rintro e w1 ⟨rfl, hB1⟩
    have HC1 := Lib.hid hB1
    clear hB1 NN
    go_wp2_with fail
    have N1 := plainAt_any A n cp at_ xs w1 hn1 hcp hcp2 (BX.out.below HC1.out) (HF.out.below HC1.out HF.out.size) (HT.out.below HC1.out HT.out.size)
    rw [R2.out] at N1
    have NN := Lib.hid N1
    clear N1
    refine NN.out.mono ?_
    rintro e w2 ⟨rfl, hB2⟩
    have HC2 := Lib.hid (HC1.out.trans (hB2.mono HC1.out.size))
    clear hB2 NN
    go_wp2_with fail
    have N1 := rread_any false A n cp at_ xs w2 hn1 hcp hcp2 (BX.out.below HC2.out)
    rw [R1.out] at N1
    have NN := Lib.hid N1
    clear N1
    refine NN.out.mono ?_
    rintro e w3 ⟨rfl, hB3⟩
    have HC3 := Lib.hid (HC2.out.trans (hB3.mono HC2.out.size))
    clear hB3 NN
    go_wp2_with fail
    have N1 := rread_any true A n cp at_ xs w3 hn1 hcp hcp2 (BX.out.below HC3.out)
    rw [R2.out] at N1
    have NN := Lib.hid N1
    clear N1
    refine NN.out.mono ?_
    rintro e w4 ⟨rfl, hB4⟩
    have HC4 := Lib.hid (HC3.out.trans (hB4.mono HC3.out.size))
    clear hB4 NN
    go_wp2_with fail
    refine (blanks_any A n cp at_ xs w4 hn1 (BX.out.below HC4.out)).mono ?_
    rintro e w5 ⟨rfl, rfl⟩
    go_wp2_with fail
    refine (rblanks_any A n cp at_ xs _ hn1 (BX.out.below HC4.out)).mono ?_
    rintro e w5 ⟨rfl, rfl⟩
    go_wp2_with fail
    refine (live5_any _ (HF.out.below HC4.out HF.out.size) (HT.out.below HC4.out HT.out.size)).mono ?_
    rintro e w' ⟨rfl, hB⟩
    go_wp2
    go_ret
    exact ⟨rfl, HC4.out.trans (hB.mono HC4.out.size)⟩
end Go.Proofs.YthcehnmkabnjfaaDoor
