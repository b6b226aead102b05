/- The walk of DiffFirsts at rows of events of any size. Conditions: none on sizes. -/
import Derived.Test.YtdhgkbghlkhfeaaDiffLive
import Derived.Test.YtdhgkbghlkhfeaaDiffRFirst
import Derived.Test.YtdhgkbghlkhfeaaEvWrap
namespace Go.Proofs.Ytdhgkbghlkhfeaa
open Go.RowKit
set_option maxHeartbeats 8000000 in
theorem firstsW_any (A : Option Addr) (n c : Nat) (l : List Ev) (A' : Option Addr) (n' c' : Nat) (m : List Ev) (w : World) (hl : EvsAt w A n l) (hm : EvsAt w A' n' m) (hn : n ≤ 9223372036854775807) (hn' : n' ≤ 9223372036854775807) :
    Calls Try.prog 4 #[.slice A n c, .slice A' n' c'] w (BelB true w) := by
  have L := Lib.hid hl
  have M := Lib.hid hm
  have LN := Lib.hid hl.1
  have MN := Lib.hid hm.1
  clear hl hm
  have G1 := Lib.hid (greatW_any A n c l w L.out hn)
  cases h1 : greatW n l with
  | true =>
    have H1 := Lib.hid h1
    clear h1
    go_enter Try.func4, Try.ntmps4
    go_wp2_with fail
    refine G1.out.mono ?_
    rintro x w1 ⟨rfl, hB1⟩
    rw [H1.out]
    go_wp2_with fail
    refine (live42_any _).mono ?_
    rintro x w2 ⟨rfl, hB2⟩
    go_wp2
    go_ret
    exact ⟨rfl, hB1.trans (hB2.mono hB1.size)⟩
  | false =>
    have H1 := Lib.hid h1
    have hn1 : n ≤ 100 := greatW_le h1
    clear h1
    cases h2 : greatW n' m with
    | true =>
      have H2 := Lib.hid h2
      clear h2
      go_enter Try.func4, Try.ntmps4
      go_wp2_with fail
      refine G1.out.mono ?_
      rintro x w1 ⟨rfl, hB1⟩
      rw [H1.out]
      go_wp2_with fail
      refine (greatW_any A' n' c' m w1 (M.out.below hB1) hn').mono ?_
      rintro x w2 ⟨rfl, hB2⟩
      rw [H2.out]
      have hC2 := hB1.trans (hB2.mono hB1.size)
      clear hB1 hB2
      go_wp2_with fail
      refine (live42_any _).mono ?_
      rintro x w3 ⟨rfl, hB3⟩
      go_wp2
      go_ret
      exact ⟨rfl, hC2.trans (hB3.mono hC2.size)⟩
    | false =>
      have H2 := Lib.hid h2
      have hn2 : n' ≤ 100 := greatW_le h2
      clear h2
      have FS := Lib.hid (firstOf_same l m)
      have FL := firstOf_le l m
      have q1 : (((firstOf l m).1 : Int) != ((firstOf l m).1 : Int)) = false := by simp
      have q2 : ((firstOf l m).2 != (firstOf l m).2) = false := by simp
      have FR := Lib.hid (show firstOf l l = (n, true) by rw [firstOf_refl, LN.out])
      generalize hfi : firstOf l m = fi at *
      have FI := Lib.hid hfi
      clear hfi
      obtain ⟨f1, f2⟩ := fi
      simp only at q1 q2 FS FL
      go_enter Try.func4, Try.ntmps4
      go_wp2_with fail
      refine G1.out.mono ?_
      rintro x w1 ⟨rfl, hB1⟩
      rw [H1.out]
      go_wp2_with fail
      refine (greatW_any A' n' c' m w1 (M.out.below hB1) hn').mono ?_
      rintro x w2 ⟨rfl, hB2⟩
      rw [H2.out]
      have hC2 := hB1.trans (hB2.mono hB1.size)
      clear hB1 hB2
      go_wp2_with fail
      refine (first_any A n c l A' n' c' m w2 (L.out.below hC2) (M.out.below hC2) hn hn').mono ?_
      rintro x w3 ⟨rfl, hB3⟩
      rw [FI.out]
      have hC3 := hC2.trans (hB3.mono hC2.size)
      clear hC2 hB3
      go_wp2_with fail
      refine (rfirst_any A n c l A' n' c' m w3 (L.out.below hC3) (M.out.below hC3) hn hn').mono ?_
      rintro x w4 ⟨rfl, hB4⟩
      rw [FI.out]
      have hC4 := hC3.trans (hB4.mono hC3.size)
      clear hC3 hB4
      go_wp2_with fail
      refine (same_any A n c l A' n' c' m w4 (L.out.below hC4) (M.out.below hC4) hn).mono ?_
      rintro x w5 ⟨rfl, hB5⟩
      rw [← FS.out]
      have HC5 := Lib.hid (hC4.trans (hB5.mono hC4.size))
      clear hC4 hB5
      go_wp2
      go_loopw [9] (fun i wr => ∃ (k : Nat), k ≤ n ∧ k ≤ n' ∧ i = .int .i64 k ∧ Hid (Below w.heap.size w wr)) (fun i _ => n - (intOf i).toNat)
      case atStart => exact ⟨0, by omega, by omega, rfl, HC5⟩
      case round =>
        obtain ⟨k, hk, hk', rfl, HB⟩ := hrel
        by_cases hlt : k < n
        · by_cases hlt2 : k < n'
          · have b0 : (0 : Int) ≤ (k : Int) := by omega
            obtain ⟨a, e, rfl, hx, he, hok⟩ := L.out.2 k hlt
            obtain ⟨b, f, rfl, hy, hf, hok2⟩ := M.out.2 k hlt2
            have b1 : (k : Int) < (n : Int) := by omega
            have b2 : (k : Int) < (n' : Int) := by omega
            have E := Lib.hid he
            have F := Lib.hid hf
            have OK := Lib.hid hok
            have OK2 := Lib.hid hok2
            have X := Lib.hid hx
            have Y := Lib.hid hy
            have B0 := E.out.1
            have B1 := F.out.1
            clear hx hy he hf hok hok2
            obtain ⟨_, g0, g1, g2, g3, g4⟩ := E.out.below (HB.out.trans (below_drew _ wr)) B0
            obtain ⟨_, p0, p1, p2, p3, p4⟩ := F.out.below (HB.out.trans (below_drew _ wr)) B1
            have hC := HB.out.trans (below_drew _ wr)
            go_wp2_with fail
            go_region_held3 (fun w' => w'.cell? (a.add (k * 5)) = some (.int .i64 e.k) ∧ w'.cell? ⟨(a.add (k * 5)).block, (a.add (k * 5)).off + 1, none⟩ = some (.string e.sp) ∧ w'.cell? ⟨(a.add (k * 5)).block, (a.add (k * 5)).off + 2, none⟩ = some (.string e.lo) ∧ w'.cell? ⟨(a.add (k * 5)).block, (a.add (k * 5)).off + 3, none⟩ = some (.slice e.A e.n e.c) ∧ w'.cell? ⟨(a.add (k * 5)).block, (a.add (k * 5)).off + 4, none⟩ = some (.string e.tx) ∧ w'.cell? (b.add (k * 5)) = some (.int .i64 f.k) ∧ w'.cell? ⟨(b.add (k * 5)).block, (b.add (k * 5)).off + 1, none⟩ = some (.string f.sp) ∧ w'.cell? ⟨(b.add (k * 5)).block, (b.add (k * 5)).off + 2, none⟩ = some (.string f.lo) ∧ w'.cell? ⟨(b.add (k * 5)).block, (b.add (k * 5)).off + 3, none⟩ = some (.slice f.A f.n f.c) ∧ w'.cell? ⟨(b.add (k * 5)).block, (b.add (k * 5)).off + 4, none⟩ = some (.string f.tx))
              (first | exact ⟨i0, i1, i2, i3, i4, q0, q1, q2, q3, q4⟩ | exact ⟨g0, g1, g2, g3, g4, p0, p1, p2, p3, p4⟩)
              (first
              | (go_at_call 15; refine (parts_any e f _ (OK.out.below hC) (OK2.out.below hC)).mono ?_; rintro x w2 ⟨rfl, hB1⟩; have hC := hC.trans (hB1.mono hC.size); obtain ⟨_, i0, i1, i2, i3, i4⟩ := E.out.below hC B0; obtain ⟨_, q0, q1, q2, q3, q4⟩ := F.out.below hC B1)
              | (go_at_call 16; refine (rparts_any e f _ (OK.out.below hC) (OK2.out.below hC)).mono ?_; rintro x w2 ⟨rfl, hB1⟩; have hC := hC.trans (hB1.mono hC.size); obtain ⟨_, i0, i1, i2, i3, i4⟩ := E.out.below hC B0; obtain ⟨_, q0, q1, q2, q3, q4⟩ := F.out.below hC B1))
            all_goals
              go_wp2
              go_roundw
              case rel => exact ⟨k + 1, by omega, by omega, by go_num, hC⟩
              case measure => simp [intOf]; omega
          · have b3 : ¬ k < n' := hlt2
            go_wp2_with fail
            refine (first_any A n c l A n c l wr (L.out.below HB.out) (L.out.below HB.out) hn hn).mono ?_
            rintro x w6 ⟨rfl, hB6⟩
            rw [FR.out]
            have hC6 := HB.out.trans (hB6.mono HB.out.size)
            clear hB6
            go_wp2_with fail
            refine (live42_any _).mono ?_
            rintro x w7 ⟨rfl, hB7⟩
            go_wp2
            go_ret
            exact ⟨rfl, hC6.trans (hB7.mono hC6.size)⟩
        · have b3 : ¬ k < n := hlt
          go_wp2_with fail
          refine (first_any A n c l A n c l wr (L.out.below HB.out) (L.out.below HB.out) hn hn).mono ?_
          rintro x w6 ⟨rfl, hB6⟩
          rw [FR.out]
          have hC6 := HB.out.trans (hB6.mono HB.out.size)
          clear hB6
          go_wp2_with fail
          refine (live42_any _).mono ?_
          rintro x w7 ⟨rfl, hB7⟩
          go_wp2
          go_ret
          exact ⟨rfl, hC6.trans (hB7.mono hC6.size)⟩
end Go.Proofs.Ytdhgkbghlkhfeaa
