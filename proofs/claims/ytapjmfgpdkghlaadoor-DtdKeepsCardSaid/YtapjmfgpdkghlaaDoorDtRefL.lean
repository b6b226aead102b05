/- The reference's answers for layer 17: Len. Conditions: at most 2^20 declarations, and of attributes in each. -/
import Derived.Test.YtapjmfgpdkghlaaDoorDtRefD
namespace Go.Proofs.YtapjmfgpdkghlaaDoor
open Go.RowKit Go.Maps
set_option linter.unusedVariables false
set_option linter.unusedSimpArgs false
def sumR (ds : List DcP) (ns : List ByteArray) : Nat := (ns.map fun s => (defsR ds s).length).sum
def lenR (ds : List DcP) : Nat := (entsR ds false).length + (entsR ds true).length + cntN ds ds.length + sumR ds (elsR ds)
theorem sumR_next (ds : List DcP) {ns : List ByteArray} {k : Nat} {s : ByteArray} (h : ns[k]? = some s) : sumR ds (ns.take (k + 1)) = sumR ds (ns.take k) + (defsR ds s).length := by
  unfold sumR
  rw [List.take_add_one, h, List.map_append, List.sum_append]
  simp
theorem sumR_le (ds : List DcP) (ns : List ByteArray) (k : Nat) : sumR ds (ns.take k) ≤ sumR ds ns := by
  have h : sumR ds ns = sumR ds (ns.take k) + sumR ds (ns.drop k) := by
    unfold sumR
    rw [← List.sum_append, ← List.map_append, List.take_append_drop]
  omega
set_option maxRecDepth 100000 in
set_option maxHeartbeats 4000000 in
theorem rlen_any (A : Option Addr) (n c : Nat) (l : List Dc) (w : World) (h : DcsAt w A n l) (hn : n ≤ 1048576) (hd : ∀ d ∈ l, d.ds.length ≤ 1048576) (hs : lenR (l.map Dc.pl) ≤ 1000000000) : Calls Tryd.prog 20 #[.slice A n c] w (RetIB (lenR (l.map Dc.pl)) w) := by
  have DS := Lib.hid h
  have HD := Lib.hid hd
  have HS := Lib.hid hs
  have C1 := Lib.hid (rents_any A n c l false w h hn)
  clear h hd hs
  go_enter Tryd.func20, Tryd.ntmps20
  go_wp2_with fail
  refine C1.out.mono ?_
  rintro e w1 ⟨A1, c1, rfl, _, hB1⟩
  have HB1 := Lib.hid hB1
  have C2 := Lib.hid (rents_any A n c l true w1 (DcsAt.below (w := w) DS.out hB1) hn)
  clear C1 hB1
  go_wp2_with fail
  refine C2.out.mono ?_
  rintro e w2 ⟨A2, c2, rfl, _, hB2⟩
  have HB2 := Lib.hid (HB1.out.trans (hB2.mono HB1.out.size))
  clear C2 hB2
  have C3 := Lib.hid (rnots_any A n c l w2 (DcsAt.below (w := w) DS.out HB2.out) hn)
  have hl1 : (entsR (l.map Dc.pl) false).length + (entsR (l.map Dc.pl) true).length + cntN (l.map Dc.pl) n ≤ 1000000000 := by
    have h1 := HS.out
    unfold lenR at h1
    rw [List.length_map, DS.out.1] at h1
    omega
  obtain ⟨p, hp⟩ : ∃ p, p = (entsR (l.map Dc.pl) false).length := ⟨_, rfl⟩
  obtain ⟨q, hq⟩ : ∃ q, q = (entsR (l.map Dc.pl) true).length := ⟨_, rfl⟩
  obtain ⟨r, hr⟩ : ∃ r, r = cntN (l.map Dc.pl) n := ⟨_, rfl⟩
  rw [← hp, ← hq, ← hr] at hl1
  rw [← hr] at C3
  rw [← hp, ← hq]
  have HP := Lib.hid hp
  have HQ := Lib.hid hq
  have HR := Lib.hid hr
  clear hp hq hr
  go_wp2_with fail
  refine C3.out.mono ?_
  rintro e w3 ⟨rfl, rfl⟩
  clear C3
  have C4 := Lib.hid (relems_any A n c l w2 (DcsAt.below (w := w) DS.out HB2.out) hn)
  go_wp2_with fail
  refine C4.out.mono ?_
  rintro e w4 ⟨A4, c4, rfl, ho4, hB4⟩
  have HB4 := Lib.hid (HB2.out.trans (hB4.mono HB2.out.size))
  have TS := Lib.hid (TsAt.of_own ho4)
  clear C4 hB4 ho4
  have hnl : (elsR (l.map Dc.pl)).length ≤ 1048576 := by
    have h1 := foldL_len (l.map Dc.pl) []
    have h2 := DS.out.1
    rw [List.length_map] at h1
    simp only [List.length_nil] at h1
    unfold elsR
    omega
  obtain ⟨ns, hns⟩ : ∃ ns, ns = elsR (l.map Dc.pl) := ⟨_, rfl⟩
  rw [← hns] at TS hnl
  rw [← hns]
  have HNS := Lib.hid hns
  clear hns
  go_wp2
  go_loopw [3, 5] (fun s i wr => ∃ (k m : Nat), k ≤ ns.length ∧ i = .int .i64 k ∧ s = .int .i64 m ∧ Hid (m = p + q + r + sumR (l.map Dc.pl) (ns.take k)) ∧ Hid (Below w4.heap.size w4 wr)) (fun _ i _ => ns.length - (intOf i).toNat)
  case atStart => exact ⟨0, p + q + r, by omega, rfl, by go_num, rfl, Below.refl _ _⟩
  case round =>
    obtain ⟨k, m, hk, rfl, rfl, HM, HB⟩ := hrel
    by_cases hlt : k < ns.length
    · obtain ⟨a, x, rfl, hx, _, g0⟩ := (TsAt.below (w := w4) TS.out HB.out).2 k hlt
      have b0 : (0 : Int) ≤ (k : Int) := by omega
      have b1 : (k : Int) < (ns.length : Int) := by omega
      have HB5 := Lib.hid (HB4.out.trans (HB.out.mono HB4.out.size))
      have C := Lib.hid (rdefs_any A n c l x wr (DcsAt.below (w := w) DS.out HB5.out) hn HD.out)
      have HNX := Lib.hid (sumR_next (l.map Dc.pl) hx)
      clear hx
      go_wp2_with fail
      refine C.out.mono ?_
      rintro e w6 ⟨ys, A6, c6, rfl, hy, _, _, hB6⟩
      have hyl : ys.length = (defsR (l.map Dc.pl) x).length := by rw [← hy, List.length_map]
      have hle := sumR_le (l.map Dc.pl) ns (k + 1)
      have hsum : m + ys.length ≤ 1000000000 := by
        have h1 := HS.out
        unfold lenR at h1
        rw [← HNS.out, List.length_map, DS.out.1] at h1
        have := HM.out
        have := HP.out
        have := HQ.out
        have := HR.out
        have := HNX.out
        omega
      have HM2 := Lib.hid (show m + ys.length = p + q + r + sumR (l.map Dc.pl) (ns.take (k + 1)) by rw [HNX.out, HM.out]; omega)
      have HB7 := Lib.hid (HB.out.trans (hB6.mono HB.out.size))
      clear hy hyl hle hB6 C
      go_wp2
      go_roundw
      case rel => exact ⟨k + 1, m + ys.length, by omega, by go_num, by go_num, HM2, HB7⟩
      case measure => simp [intOf]; omega
    · obtain rfl : k = ns.length := by omega
      have e : m = lenR (l.map Dc.pl) := by
        have h1 := HM.out
        rw [List.take_of_length_le (Nat.le_refl _)] at h1
        unfold lenR
        rw [← HNS.out, List.length_map, DS.out.1, h1, HP.out, HQ.out, HR.out]
      have E := Lib.hid e
      clear e
      go_wp2
      go_ret
      exact ⟨by rw [← E.out]; rfl, HB4.out.trans (HB.out.mono HB4.out.size)⟩
end Go.Proofs.YtapjmfgpdkghlaaDoor
