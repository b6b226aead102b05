/- The walk of narthexlaw34.live. Conditions: none. -/
import Derived.Test.YtbamcpnmabpacaaScLaw2
namespace Go.Proofs.Ytbamcpnmabpacaa
open Go.RowKit
set_option linter.unusedVariables false
set_option linter.unusedSimpArgs false
theorem lit_bds {w W : World} {t : TypeId} {p s : ByteArray} (h : W.heap[w.heap.size]? = some (.cells #[.string p, .string s] t (0, 0))) : BdsAt W (some ⟨w.heap.size, 0, none⟩) 1 [⟨p, s⟩] := by
  refine ⟨rfl, fun i hi => ?_⟩
  obtain rfl : i = 0 := by omega
  refine ⟨_, _, rfl, rfl, ?_⟩
  rw [addGS]
  exact ⟨(Array.getElem?_eq_some_iff.1 h).1, by rw [Lib.cell_of_heap h]; rfl, by rw [Lib.cell_of_heap h]; rfl⟩
set_option maxRecDepth 100000 in
set_option maxHeartbeats 2000000 in
theorem live34_any (w : World) : Calls Try.prog 6 #[] w (BelB true w) := by
  have CN := Lib.hid (newS_any w)
  go_enter Try.func6, Try.ntmps6
  go_wp2_with fail
  refine CN.out.mono ?_
  rintro e w1 ⟨g, rfl, hsc, hb1⟩
  obtain ⟨W2, hW2, hb2, hh2, -⟩ := frBox w1 #[.string ⟨#[112]⟩, .string ⟨#[117]⟩] 40
  have CP := Lib.hid (pushS_any w.heap.size g [] none (some ⟨w1.heap.size, 0, none⟩) 1 [⟨⟨#[112]⟩, ⟨#[117]⟩⟩] W2 (hsc.below hb2) (lit_bds hh2) (fun h => by cases h) (by decide) (by decide) (Nat.le_trans hb1.size hb2.size))
  have HB2 := Lib.hid (hb1.trans (hb2.mono hb1.size))
  have HG : Hid (w.heap.size ≤ g) := Lib.hid hsc.gbase
  clear hsc hb1 hb2 hh2 CN
  go_wp2_with fail
  refine CP.out.mono ?_
  rintro e w3 ⟨rfl, ⟨q3, hq3⟩, hk3⟩
  have HB3 := Lib.hid (HB2.out.trans (hk3.below HB2.out.size HG.out))
  obtain ⟨W4, hW4, hb4, hh4, -⟩ := frBox w3 #[.string ⟨#[112]⟩, .string ⟨#[118]⟩] 40
  have CP2 := Lib.hid (pushS_any w.heap.size g [[⟨⟨#[112]⟩, ⟨#[117]⟩⟩]] q3 (some ⟨w3.heap.size, 0, none⟩) 1 [⟨⟨#[112]⟩, ⟨#[118]⟩⟩] W4 (hq3.below hb4) (lit_bds hh4) (fun h => by cases h) (by decide) (by decide) (Nat.le_trans HB3.out.size hb4.size))
  have HB4 := Lib.hid (HB3.out.trans (hb4.mono HB3.out.size))
  clear hq3 hk3 hb4 hh4 CP hW2
  go_wp2_with fail
  refine CP2.out.mono ?_
  rintro e w5 ⟨rfl, ⟨q5, hq5⟩, hk5⟩
  have HB5 := Lib.hid (HB4.out.trans (hk5.below HB4.out.size HG.out))
  have CF := find_any w.heap.size g _ q5 ⟨#[112]⟩ w5 hq5 (by decide)
  rw [show ansF (meanF [[⟨⟨#[112]⟩, ⟨#[118]⟩⟩], [⟨⟨#[112]⟩, ⟨#[117]⟩⟩]] ⟨#[112]⟩) ⟨#[112]⟩ = (⟨#[118]⟩, true) from by kernel_rfl] at CF
  have CF := Lib.hid CF
  have CO := Lib.hid (popS_any w.heap.size g _ _ q5 w5 hq5 (by decide))
  clear hq5 hk5 CP2 hW4
  go_wp2_with fail
  refine CF.out.mono ?_
  rintro e w6 ⟨rfl, rfl⟩
  go_wp2_with fail
  refine CO.out.mono ?_
  rintro e w7 ⟨rfl, ⟨q7, hq7⟩, hk7⟩
  have HB7 := Lib.hid (HB5.out.trans (hk7.below HB5.out.size HG.out))
  have CF2 := find_any w.heap.size g _ q7 ⟨#[112]⟩ w7 hq7 (by decide)
  rw [show ansF (meanF [[⟨⟨#[112]⟩, ⟨#[117]⟩⟩]] ⟨#[112]⟩) ⟨#[112]⟩ = (⟨#[117]⟩, true) from by kernel_rfl] at CF2
  have CF2 := Lib.hid CF2
  clear hq7 hk7 CF CO
  go_wp2_with fail
  refine CF2.out.mono ?_
  rintro e w8 ⟨rfl, rfl⟩
  go_wp2
  go_ret
  exact ⟨rfl, HB7.out⟩
end Go.Proofs.Ytbamcpnmabpacaa
