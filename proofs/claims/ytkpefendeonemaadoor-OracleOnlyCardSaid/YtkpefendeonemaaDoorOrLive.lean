/- The page's example of layer 23. Conditions: internal/bytealg.MaxLen holds an int. -/
import Derived.Test.YtkpefendeonemaaDoorOrSame
import Derived.Lib.SlBytesConst
namespace Go.Proofs.YtkpefendeonemaaDoor
open Go.RowKit Go.Maps Go.Proofs.YtkpefendeonemaaDoor.UriPlain
set_option linter.unusedVariables false
set_option linter.unusedSimpArgs false
def exA : AnP := ⟨⟨#[97, 58, 47, 47, 98, 47]⟩, true, [120]⟩
theorem live_found : foundA [exA] ⟨#[65, 58, 47, 47, 98]⟩ = some exA := by kernel_rfl
set_option maxRecDepth 100000 in
set_option maxHeartbeats 4000000 in
theorem live23_any (w : World) (m : Int) (hm : w.cell? ⟨0, 0, none⟩ = some (.int .i64 m)) : Calls Tryd.prog 6 #[] w (BelB true w) := by
  obtain ⟨W1, hW1⟩ : ∃ W1, W1 = (w.alloc (.cells #[.int .u8 120] 5 (1, 2))).alloc (.cells #[.string ⟨#[97, 58, 47, 47, 98, 47]⟩, .bool true, .slice (some ⟨w.heap.size, 0, none⟩) 1 1] 27) := ⟨_, rfl⟩
  have hB1 : Below w.heap.size w W1 := by rw [hW1]; exact ((Below.refl _ _).alloc (Nat.le_refl _) _).alloc (by simp) _
  have hlt0 : 0 < w.heap.size := World.block_lt_of_cell? _ _ hm
  have hs1 : W1.heap.size = w.heap.size + 2 := by rw [hW1]; simp
  have hat : AnsAt W1 (some ⟨w.heap.size + 1, 0, none⟩) 1 [⟨⟨#[97, 58, 47, 47, 98, 47]⟩, true, some ⟨w.heap.size, 0, none⟩, 1, 1, [120]⟩] := by
    refine ⟨rfl, fun i hi => ?_⟩
    obtain rfl : i = 0 := by omega
    refine ⟨_, _, rfl, rfl, ⟨by rw [addGA, hs1]; show w.heap.size + 1 < _; omega, ?_, ?_, ?_⟩, ⟨rfl, fun k hk => ?_⟩, Nat.le_refl _, by show (1 : Nat) ≤ _; decide⟩
    · rw [addGA, hW1]; simp
    · rw [addGA, hW1]; simp
    · rw [addGA, hW1]; simp
    · have hk1 : k < 1 := hk
      obtain rfl : k = 0 := by omega
      refine ⟨_, 120, rfl, rfl, by decide, by decide, by rw [hs1]; show w.heap.size < _; omega, ?_⟩
      have hh : W1.heap[w.heap.size]? = some (.cells #[.int .u8 120] 5 (1, 2)) := by
        rw [hW1]
        exact (((Below.refl (w.heap.size + 1) _).alloc (by simp) _).block w.heap.size (by omega)).trans (heap_alloc_new w _)
      rw [addGA]
      simp [World.cell?, hh]
  have F := ofind_any (some ⟨w.heap.size + 1, 0, none⟩) 1 1 _ ⟨#[65, 58, 47, 47, 98]⟩ W1 m hat (by decide) (by intro x hx; simp at hx; subst hx; show (1 : Nat) ≤ 1048576; decide) ((hB1.cell (p := ⟨0, 0, none⟩) hlt0).trans hm)
  rw [show [An.mk ⟨#[97, 58, 47, 47, 98, 47]⟩ true (some ⟨w.heap.size, 0, none⟩) 1 1 [120]].map An.pl = [exA] from rfl, live_found] at F
  have F := Lib.hid F
  have kc := Lib.run_convert_bytes_const (P := Tryd.prog) w 25 5 #[.int .u8 120] 1 1 Tryd.underlying25 Tryd.underlying5
  have HW1 := Lib.hid hW1
  have HB1 := Lib.hid hB1
  clear hW1 hB1 hm hat hlt0 hs1
  go_enter Tryd.func6, Tryd.ntmps6
  go_wp2_with fail
  rw [← HW1.out]
  refine F.out.mono ?_
  rintro e w2 ⟨y, rfl, hy, hfr, hB2⟩
  obtain ⟨yi, yo, yD, yn, yc, ya⟩ := y
  unfold An.pl at hy
  simp only [Option.getD_some, exA, AnP.mk.injEq] at hy
  obtain ⟨rfl, rfl, rfl⟩ := hy
  obtain ⟨W, hW, hbW, hhW, hltW, c0, c1, c2⟩ := anBox w2 ⟨⟨#[97, 58, 47, 47, 98, 47]⟩, true, yD, yn, yc, [120]⟩ 27
  have k1 := convB W yD yn yc [120] (hfr.ok.1.below hbW)
  rw [show strOfNums [120] = ⟨#[120]⟩ from rfl] at k1
  have HB := Lib.hid ((HB1.out.trans (hB2.mono HB1.out.size)).trans (hbW.mono (Nat.le_trans HB1.out.size hB2.size)))
  dsimp only at hW c0 c1 c2
  clear hbW hhW hltW hfr hB2 F
  go_wp2
  go_ret
  exact ⟨rfl, HB.out⟩
end Go.Proofs.YtkpefendeonemaaDoor
