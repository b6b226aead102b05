/- The walk of the law CharsRanges: it returns true for any numbers. Conditions: the three tables hold what the text gives them. -/
import Derived.Test.YtdjlpdhmnkhmlaaDoorCharsRange
namespace Go.Proofs.YtdjlpdhmnkhmlaaDoor
open Go.RowKit Go.Shelf Go.Proofs.YtdjlpdhmnkhmlaaDoor.CharsPlain Go.Proofs.YtdjlpdhmnkhmlaaDoor.CharsRuns
/-- A slice value that holds a row of runs. -/
def RunRow (w : World) (A : Option Addr) (rs : List (Int × Int)) : Prop := 0 < rs.length → ∃ g, A = some ⟨g, 0, none⟩ ∧ RunsAt w g rs
theorem runRow_of {w : World} {base : Nat} {e : TypeId} {v : Value} {rs : List (Int × Int)} (h : w.ownsRow base e 2 v rs.length (runCells rs)) : ∃ A cap, v = .slice A rs.length cap ∧ RunRow w A rs := by
  rcases Nat.eq_zero_or_pos rs.length with h0 | h0
  · rcases h.2 with ⟨rfl, _⟩ | ⟨g, cap, cur, rfl, _⟩
    · exact ⟨none, 0, by rw [h0], fun h => by omega⟩
    · exact ⟨_, cap, rfl, fun h => by omega⟩
  · obtain ⟨g, cap, rfl⟩ := ownsRow_slice h h0
    refine ⟨_, cap, rfl, fun _ => ⟨g, rfl, fun k hk => ?_⟩⟩
    have hx : rs[k]? = some rs[k] := List.getElem?_eq_getElem hk
    obtain ⟨h1, h2⟩ := flat_at rs k _ hx
    refine ⟨rs[k].1, rs[k].2, hx, ?_, ?_⟩
    · rw [h.cellAt _ (by omega)]; unfold runCells; rw [List.getElem?_map, h1]; rfl
    · rw [h.cellAt _ (by omega)]; unfold runCells; rw [List.getElem?_map, h2]; rfl
/-- What the scan's place says of the number. -/
theorem scan {p : Int → Bool} {lo : Int} {n : Nat} {rs : List (Int × Int)} {op : Bool} (h : Inv p lo (n + 1) rs op) {j q : Nat} (hj : j ≤ n) (hb : ∀ i, i < q → ∀ x, rs[i]? = some x → x.2 < lo + j)
    {z : Int × Int} (hz : rs[q]? = some z) (hz2 : lo + j ≤ z.2) : p (lo + j) = decide (z.1 ≤ lo + j) := by
  rw [Bool.eq_iff_iff]
  simp only [decide_eq_true_eq]
  constructor
  · intro hp
    obtain ⟨x, hx, h1, h2⟩ := h.some _ (by omega) (by omega) hp
    obtain ⟨i, hi⟩ := List.getElem?_of_mem hx
    rcases Nat.lt_trichotomy i q with hlt | rfl | hgt
    · have := hb i hlt x hi; omega
    · rw [hi] at hz; cases hz; exact h1
    · obtain ⟨b1, e1⟩ := List.getElem?_eq_some_iff.1 hz
      obtain ⟨b2, e2⟩ := List.getElem?_eq_some_iff.1 hi
      have := List.pairwise_iff_getElem.1 h.gap q i b1 b2 hgt
      rw [e1, e2] at this; omega
  · intro h1; exact h.only z (List.mem_of_getElem? hz) _ h1 hz2
theorem scan_end {p : Int → Bool} {lo : Int} {n : Nat} {rs : List (Int × Int)} {op : Bool} (h : Inv p lo (n + 1) rs op) {j : Nat} (hj : j ≤ n) (hb : ∀ i, i < rs.length → ∀ x, rs[i]? = some x → x.2 < lo + j) :
    p (lo + j) = false := by
  rw [Bool.eq_false_iff]
  intro hp
  obtain ⟨x, hx, h1, h2⟩ := h.some _ (by omega) (by omega) hp
  obtain ⟨i, hi⟩ := List.getElem?_of_mem hx
  have := hb i (List.getElem?_eq_some_iff.1 hi).1 x hi
  omega
set_option maxHeartbeats 2000000 in
set_option maxRecDepth 100000 in
theorem rangesLaw_any (lo : Int) (m c : Nat) (w : World) (hm : m ≤ 65535) (hc : c ≤ 255) (h1 : -9223372036854775808 ≤ lo) (ht : Tabs w) :
    Calls Tryd.prog 4 #[.int .i64 lo, .int .u16 m, .int .u8 c] w (BelB true w) := by
  have HT := Lib.hid ht
  clear ht
  by_cases hbig : 4611686018427387904 < lo
  · go_enter Tryd.func4, Tryd.ntmps4
    go_wp2_with fail
    refine (live3_any _ HT.out).mono ?_; rintro e w1 ⟨rfl, hb1⟩
    go_wp2
    go_ret
    exact ⟨rfl, hb1⟩
  · obtain ⟨n, hn⟩ : ∃ n : Nat, (m : Int) % 2000 = n := ⟨m % 2000, by omega⟩
    obtain ⟨k, hk⟩ : ∃ k : Nat, (c : Int) % 5 = k := ⟨c % 5, by omega⟩
    have hn2 : n < 2000 := by omega
    have hk2 : k < 5 := by omega
    go_enter Tryd.func4, Tryd.ntmps4
    go_wp2_with fail
    refine (ask_any k _ hk2).mono ?_; rintro e w' ⟨rfl, rfl⟩
    go_wp2_with fail
    refine (ranges_any k lo n _ hk2 HT.out (by omega) (by omega) (by omega)).mono ?_
    rintro e w1 ⟨v, rs, op, rfl, hI, hlen, hO, hB⟩
    obtain ⟨A, cap, rfl, hR⟩ := runRow_of hO
    have I := Lib.hid hI
    have R := Lib.hid hR
    have B := Lib.hid hB
    have HT1 := Lib.hid (HT.out.below hB HT.out.size)
    clear hI hR hB hO
    clear hn hk hm hc
    go_wp2_with fail
    go_loop [10, 11] (fun t i => ∃ j q : Nat, j ≤ n + 1 ∧ q ≤ rs.length ∧ i = .int .i64 j ∧ t = .int .i64 q ∧ Hid (∀ i, i < q → ∀ x, rs[i]? = some x → x.2 < lo + j)) (fun _ i => n + 1 - (intOf i).toNat)
    case atStart => exact ⟨0, 0, by omega, by omega, rfl, rfl, fun i hi => by omega⟩
    case round =>
      obtain ⟨j, q, hj, hq, rfl, rfl, HQ⟩ := hrel
      by_cases hlt : j ≤ n
      · go_wp2_with fail
        go_loop [10] (fun t => ∃ q : Nat, q ≤ rs.length ∧ t = .int .i64 q ∧ Hid (∀ i, i < q → ∀ x, rs[i]? = some x → x.2 < lo + j)) (fun t => rs.length - (intOf t).toNat)
        case atStart => exact ⟨q, hq, rfl, HQ⟩
        case round =>
          clear HQ hq
          obtain ⟨q, hq, rfl, HQ⟩ := hrel
          by_cases hq2 : q < rs.length
          · obtain ⟨g, rfl, hRA⟩ := R.out (by omega)
            obtain ⟨x, y, hz, hc1, hc2⟩ := hRA q hq2
            have Z := Lib.hid hz
            clear hz hRA
            by_cases hy : y < lo + j
            · have HQ2 : Hid (∀ i, i < q + 1 → ∀ x, rs[i]? = some x → x.2 < lo + j) := fun i hi x hx => by
                by_cases e : i = q
                · subst e; rw [Z.out] at hx; cases hx; exact hy
                · exact HQ.out i (by omega) x hx
              clear HQ
              go_wp2
              go_round
              case rel => exact ⟨q + 1, by omega, by go_num, HQ2⟩
              case measure => simp [intOf]; omega
            · have hs := scan I.out hlt HQ.out Z.out (by show lo + (j : Int) ≤ y; omega)
              have HS := Lib.hid hs
              have t2 : decide (y < lo + (j : Int)) = false := by simp; omega
              clear hs
              go_wp2_with fail
              refine (ris_any k _ _ hk2).mono ?_; rintro e w' ⟨rfl, rfl⟩
              rw [HS.out]
              go_wp2
              refine ⟨⟨j + 1, q, by omega, hq, by go_num, rfl, fun i hi x hx => by have := HQ.out i hi x hx; omega⟩, by simp [intOf]; omega⟩
          · obtain rfl : q = rs.length := by omega
            have hs := scan_end I.out hlt HQ.out
            have HS := Lib.hid hs
            clear hs
            go_wp2_with fail
            refine (ris_any k _ _ hk2).mono ?_; rintro e w' ⟨rfl, rfl⟩
            rw [HS.out]
            go_wp2
            refine ⟨⟨j + 1, rs.length, by omega, hq, by go_num, rfl, fun i hi x hx => by have := HQ.out i hi x hx; omega⟩, by simp [intOf]; omega⟩
      · clear HQ
        go_wp2_with fail
        go_loopw [13] (fun i wr => (∃ j : Nat, j ≤ rs.length ∧ i = .int .i64 j) ∧ ∃ d, wr = w1.drewN d) (fun i _ => rs.length - (intOf i).toNat)
        case atStart => exact ⟨⟨0, by omega, rfl⟩, 0, rfl⟩
        case round =>
          clear hj hq hlt
          obtain ⟨⟨j, hj, rfl⟩, d, rfl⟩ := hrel
          by_cases hlt : j < rs.length
          · obtain ⟨g, rfl, hRA⟩ := R.out (by omega)
            obtain ⟨x, y, hz, hc1, hc2⟩ := hRA j hlt
            have hm := List.mem_of_getElem? hz
            have b1 : lo ≤ x := I.out.low _ hm
            have b2 : x ≤ y := I.out.ord _ hm
            have b3 : y < lo + ((n + 1 : Nat) : Int) := I.out.high _ hm
            have i1 : (j : Int) < (rs.length : Int) := by omega
            have t1 : decide (x < lo) = false := by simp; omega
            have t2 : decide (lo + (n : Int) < y) = false := by simp; omega
            have t3 : decide (y < x) = false := by simp; omega
            cases j with
            | zero =>
              clear hz hRA hm
              go_wp2_with fail
              go_quiet (fail)
              go_wp2
              go_roundw
              case rel => exact ⟨⟨1, by omega, rfl⟩, _, rfl⟩
              case measure => simp [intOf]; omega
            | succ j =>
              obtain ⟨x0, y0, hz0, hc3, hc4⟩ := hRA j (by omega)
              have hm0 := List.mem_of_getElem? hz0
              have b4 : lo ≤ x0 := I.out.low _ hm0
              have b5 : x0 ≤ y0 := I.out.ord _ hm0
              have b6 : y0 < lo + ((n + 1 : Nat) : Int) := I.out.high _ hm0
              have hg : y0 + 1 < x := by
                obtain ⟨e1, e2⟩ := List.getElem?_eq_some_iff.1 hz0
                obtain ⟨e3, e4⟩ := List.getElem?_eq_some_iff.1 hz
                have := List.pairwise_iff_getElem.1 I.out.gap j (j + 1) e1 e3 (by omega)
                rw [e2, e4] at this; exact this
              have t4 : decide (x ≤ y0 + 1) = false := by simp; omega
              have i2 : (0 : Int) < (j : Int) + 1 := by omega
              have i3 : (j : Int) < (rs.length : Int) := by omega
              clear hz hRA hm hz0 hm0
              go_wp2_with fail
              go_quiet (fail)
              go_wp2
              go_roundw
              case rel => exact ⟨⟨j + 2, by omega, by go_num⟩, _, rfl⟩
              case measure => simp [intOf]; omega
          · go_wp2_with fail
            refine (ranges_nil _ _ _).mono ?_; rintro e w' ⟨rfl, rfl⟩
            go_wp2_with fail
            refine (ask_any k _ hk2).mono ?_; rintro e w' ⟨rfl, rfl⟩
            go_wp2_with fail
            refine (ranges_less _ _ _ _ (by omega)).mono ?_; rintro e w' ⟨rfl, rfl⟩
            go_wp2_with fail
            refine (ask_any k _ hk2).mono ?_; rintro e w' ⟨rfl, rfl⟩
            go_wp2_with fail
            refine (ranges_big _ _).mono ?_; rintro e w' ⟨rfl, rfl⟩
            go_wp2_with fail
            refine (live3_any _ (HT1.out.drewN _)).mono ?_; rintro e w2 ⟨rfl, hb2⟩
            go_wp2
            go_ret
            exact ⟨rfl, (below_drewN B.out _).trans (hb2.mono B.out.size)⟩
end Go.Proofs.YtdjlpdhmnkhmlaaDoor
