/- The walk of ExtidHeads, and the page's example. Conditions: the tables of chars and of utf hold what the text gives them. -/
import Derived.Test.YtbklopnpehafpaaDoorExtRDoc
namespace Go.Proofs.YtbklopnpehafpaaDoor
open Go.RowKit Go.Proofs.YtbklopnpehafpaaDoor.UtfPlain Go.Proofs.YtbklopnpehafpaaDoor.CharsPlain Go.Proofs.YtbklopnpehafpaaDoor.NamePlain
set_option linter.unusedVariables false
set_option linter.unusedSimpArgs false
def liveE : List Int := [83, 89, 83, 84, 69, 77, 32, 39, 97, 39]
def liveD : List Int := [60, 33, 68, 79, 67, 84, 89, 80, 69, 32, 97, 32, 91]
theorem live13_1 : extN liveE 0 = ([], [97], 10, 0) := by decide +kernel
theorem live13_2 : docN liveD 0 = ⟨true, [97], [], [], false, true, 13, 0⟩ := by kernel_rfl
theorem live13_3 : strOfNums [97] = ⟨#[97]⟩ := by decide +kernel
theorem live13_4 : strOfNums [] = ⟨#[]⟩ := by decide +kernel
set_option maxRecDepth 100000 in
set_option maxHeartbeats 4000000 in
theorem live13_any (w : World) (hf : FormsAt w) (ht : Tabs w) : Calls Tryd.prog 5 #[] w (BelB true w) := by
  have HF := Lib.hid hf
  have HT := Lib.hid ht
  have kc := fun (w : World) (C : Array Value) (n c : Nat) => Lib.run_convert_bytes_const (P := Tryd.prog) w 22 5 C n c Tryd.underlying22 Tryd.underlying5
  clear hf ht
  go_enter Tryd.func5, Tryd.ntmps5
  go_wp2_with fail
  have hB0 : Below w.heap.size w (w.alloc (.cells (byteCells liveE).toArray 5 (10, 11))) := (Below.refl _ w).alloc (Nat.le_refl _) _
  have hE := bytesAt_mark w liveE (10, 11) (by decide)
  have N1 := ext_any (some ⟨w.heap.size, 0, none⟩) 10 10 0 liveE _ (by omega) (by omega) (by omega) hE (HF.out.below hB0 HF.out.size) (HT.out.below hB0 HT.out.size)
  rw [live13_1] at N1
  unfold TellExt at N1
  simp only [live13_3, live13_4] at N1
  have HB0 := Lib.hid hB0
  have NN := Lib.hid N1
  clear hE hB0 N1
  refine NN.out.mono ?_
  rintro e w1 ⟨rfl, hB1⟩
  have hC1 := HB0.out.trans (hB1.mono HB0.out.size)
  obtain ⟨V, hV⟩ : ∃ V, V = w1.alloc (.cells #[.string ⟨#[]⟩, .string ⟨#[97]⟩] 25) := ⟨_, rfl⟩
  have hBV : Below w1.heap.size w1 V := by rw [hV]; exact (Below.refl _ _).alloc (Nat.le_refl _) _
  have hIV : IdBlk w1.heap.size ⟨#[]⟩ ⟨#[97]⟩ V := by unfold IdBlk; rw [hV, World.alloc]; simp
  have HC1 := Lib.hid (hC1.trans (hBV.mono hC1.size))
  have HIV := Lib.hid hIV
  have HV := Lib.hid hV
  clear hB1 NN hBV hIV hV hC1
  go_upto_region 2 with (fail)
  rw [← HV.out]
  go_wp2_with fail
  have hB0 : Below V.heap.size V (V.alloc (.cells (byteCells liveD).toArray 5 (13, 14))) := (Below.refl _ _).alloc (Nat.le_refl _) _
  have hE := bytesAt_mark V liveD (13, 14) (by decide)
  have hC2 := HC1.out.trans (hB0.mono HC1.out.size)
  have N1 := doc_any (some ⟨V.heap.size, 0, none⟩) 13 13 0 liveD _ (by omega) (by omega) (by omega) hE (HF.out.below hC2 HF.out.size) (HT.out.below hC2 HT.out.size)
  rw [live13_2] at N1
  unfold TellDoc at N1
  simp only [live13_3, live13_4] at N1
  have hI2 := HIV.out.below hB0
  have HC2 := Lib.hid hC2
  have NN := Lib.hid N1
  clear hE hB0 N1 hC2
  refine NN.out.mono ?_
  rintro e w2 ⟨rfl, hB2⟩
  have hI3 := hI2.below hB2
  obtain ⟨U, hU⟩ : ∃ U, U = w2.alloc (.cells #[.bool true, .string ⟨#[97]⟩, .string ⟨#[]⟩, .string ⟨#[]⟩, .bool false, .bool true] 27) := ⟨_, rfl⟩
  have hBU : Below w2.heap.size w2 U := by rw [hU]; exact (Below.refl _ _).alloc (Nat.le_refl _) _
  have hG : HdBlk 27 w2.heap.size true ⟨#[97]⟩ ⟨#[]⟩ ⟨#[]⟩ false true U := by rw [hU]; exact HdBlk.made _ _ _ _ _ _ _ _
  have hC3 := HC2.out.trans (hB2.mono HC2.out.size)
  have HB := Lib.hid (hC3.trans (hBU.mono hC3.size))
  have HU := Lib.hid hU
  obtain ⟨i0, i1, j0, j1⟩ := (hI3.below hBU).cells
  obtain ⟨k0, k1, k2, k3, k4, k5, l0, l1, l2, l3, l4, l5⟩ := hG.cells
  clear hB2 NN hI2 hI3 hBU hG hC3 hU
  go_upto_region 3 with (fail)
  rw [← HU.out]
  go_wp2
  go_ret
  exact ⟨rfl, HB.out⟩
set_option maxRecDepth 100000 in
set_option maxHeartbeats 4000000 in
theorem extidHeads_any (A : Option Addr) (n cp : Nat) (at_ : Int) (xs : List Int) (w : World) (hcp : n ≤ cp) (hcp2 : cp ≤ 9223372036854775807) (hb : BytesAt w A n xs) (hf : FormsAt w) (ht : Tabs w) :
    Calls Tryd.prog 3 #[.slice A n cp, .int .i64 at_] w (BelB true w) := by
  have BX := Lib.hid hb
  have HF := Lib.hid hf
  have HT := Lib.hid ht
  clear hf ht hb
  by_cases hn : 400 < n
  · have t0 : decide ((400 : Int) < (n : Int)) = true := by simp; omega
    go_enter Tryd.func3, Tryd.ntmps3
    go_wp2_with fail
    refine (live13_any _ HF.out HT.out).mono ?_
    rintro e w' ⟨rfl, hB⟩
    go_wp2
    go_ret
    exact ⟨rfl, hB⟩
  · have t0 : decide ((400 : Int) < (n : Int)) = false := by simp; omega
    have hn1 : n ≤ 1048576 := by omega
    clear hn
    have D1 := doc_any A n cp at_ xs w hn1 hcp hcp2 BX.out HF.out HT.out
    have D2 := fun V (hV : Below w.heap.size w V) => rdoc_any A n cp at_ xs V hn1 hcp hcp2 (BX.out.below hV)
    generalize docN xs at_ = r at D1 D2
    obtain ⟨has, nm, pub, sys, out, op, next, err⟩ := r
    unfold TellDoc at D1 D2
    dsimp only at D1 D2
    generalize strOfNums nm = s1 at D1 D2
    generalize strOfNums pub = s2 at D1 D2
    generalize strOfNums sys = s3 at D1 D2
    have D1 := Lib.hid D1
    have D2 := Lib.hid D2
    go_enter Tryd.func3, Tryd.ntmps3
    go_wp2_with fail
    refine D1.out.mono ?_
    rintro e w1 ⟨rfl, hB1⟩
    obtain ⟨V, hV⟩ : ∃ V, V = w1.alloc (.cells #[.bool has, .string s1, .string s2, .string s3, .bool out, .bool op] 27) := ⟨_, rfl⟩
    have hBV : Below w1.heap.size w1 V := by rw [hV]; exact (Below.refl _ _).alloc (Nat.le_refl _) _
    have hH : HdBlk 27 w1.heap.size has s1 s2 s3 out op V := by rw [hV]; exact HdBlk.made _ _ _ _ _ _ _ _
    have HC1 := Lib.hid (hB1.trans (hBV.mono hB1.size))
    have HH := Lib.hid hH
    have HV := Lib.hid hV
    clear hB1 hBV hH hV
    go_wp2_with fail
    rw [← HV.out]
    refine (D2.out V HC1.out).mono ?_
    rintro e w2 ⟨rfl, hB2⟩
    have hH2 := HH.out.below hB2
    have hlt := hH2.lt
    obtain ⟨U, hU⟩ : ∃ U, U = w2.alloc (.cells #[.bool has, .string s1, .string s2, .string s3, .bool out, .bool op] 31) := ⟨_, rfl⟩
    have hBU : Below w2.heap.size w2 U := by rw [hU]; exact (Below.refl _ _).alloc (Nat.le_refl _) _
    have hG : HdBlk 31 w2.heap.size has s1 s2 s3 out op U := by rw [hU]; exact HdBlk.made _ _ _ _ _ _ _ _
    have hH3 := hH2.below hBU
    have hC2 := HC1.out.trans (hB2.mono HC1.out.size)
    have HC2 := Lib.hid (hC2.trans (hBU.mono hC2.size))
    have HU := Lib.hid hU
    have L := Lib.hid (live13_any U (HF.out.below HC2.out HF.out.size) (HT.out.below HC2.out HT.out.size))
    clear hB2 hH2 hBU hU hC2
    obtain ⟨r0, r1, r2, r3, r4, r5, q0, q1, q2, q3, q4, q5⟩ := hH3.cells
    obtain ⟨k0, k1, k2, k3, k4, k5, l0, l1, l2, l3, l4, l5⟩ := hG.cells
    clear hH3 hG hlt
    go_upto_region 5 with (fail)
    rw [← HU.out]
    go_wp2_with fail
    refine L.out.mono ?_
    rintro e w3 ⟨rfl, hB3⟩
    have HB := Lib.hid (HC2.out.trans (hB3.mono HC2.out.size))
    clear hB3
    go_wp2
    go_ret
    exact ⟨rfl, HB.out⟩
end Go.Proofs.YtbklopnpehafpaaDoor
