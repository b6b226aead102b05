/- The contracts of narthexref26.Bytes and Great: what events count. Conditions: together at most 2^40. -/
import Derived.Test.YtlifdmehejehjaaDoorEvPlain
import Derived.Deep.QuietTactic
import Derived.Deep.RegionHeld3
namespace Go.Proofs.YtlifdmehejehjaaDoor
open Go.RowKit
/-- A boxed event. -/
theorem evBox (w : World) (e : Ev) (t : TypeId) : ∃ W, w.alloc (.cells #[.int .i64 e.k, .string e.sp, .string e.lo, .slice e.A e.n e.c, .string e.tx] t) = W ∧ Below w.heap.size w W ∧
    W.cell? ⟨w.heap.size, 0, none⟩ = some (.int .i64 e.k) ∧ W.cell? ⟨w.heap.size, 1, none⟩ = some (.string e.sp) ∧ W.cell? ⟨w.heap.size, 2, none⟩ = some (.string e.lo) ∧
    W.cell? ⟨w.heap.size, 3, none⟩ = some (.slice e.A e.n e.c) ∧ W.cell? ⟨w.heap.size, 4, none⟩ = some (.string e.tx) :=
  ⟨_, rfl, (Below.refl _ w).alloc (Nat.le_refl _) _, by simp, by simp, by simp, by simp, by simp⟩
set_option maxHeartbeats 2000000 in
theorem evBytes_any (e : Ev) (w : World) (hok : EvOk w e) (hs : e.size ≤ 1099511627776) :
    Calls Tryd.prog 27 #[.agg #[.int .i64 e.k, .string e.sp, .string e.lo, .slice e.A e.n e.c, .string e.tx]] w (BelI e.size w) := by
  obtain ⟨W, hW, hB0, c0, c1, c2, c3, c4⟩ := evBox w e 40
  have H := Lib.hid (hok.1.below hB0)
  have B := Lib.hid hB0
  have hz : e.size = e.sp.size + e.lo.size + e.tx.size + atSum e.ats := rfl
  have Z := Lib.hid hz
  have s1 : IntKind.i64.wrap ((e.sp.size : Int) + e.lo.size) = (e.sp.size : Int) + e.lo.size := IntWalk.i64_in _ (by omega)
  have s2 : IntKind.i64.wrap ((e.sp.size : Int) + e.lo.size + e.tx.size) = (e.sp.size : Int) + e.lo.size + e.tx.size := IntWalk.i64_in _ (by omega)
  have hn9 : e.n ≤ 9223372036854775807 := Nat.le_trans hok.2.1 hok.2.2
  clear hz hok hB0
  go_enter Tryd.func27, Tryd.ntmps27
  go_wp2
  clear hW
  go_loopw [3, 4] (fun s i wr => ∃ (k d : Nat), k ≤ e.n ∧ i = .int .i64 k ∧ s = .int .i64 ((e.sp.size + e.lo.size + e.tx.size + atSum (e.ats.take k) : Nat) : Int) ∧ wr = W.drewN d) (fun _ i _ => e.n - (intOf i).toNat)
  case atStart => exact ⟨0, 0, by omega, rfl, by simp [atSum], rfl⟩
  case round =>
    obtain ⟨k, d, hk, rfl, rfl, rfl⟩ := hrel
    by_cases hlt : k < e.n
    · obtain ⟨a, x, hA, hx, _, g0, g1, g2⟩ := H.out.2 k hlt
      have b0 : (0 : Int) ≤ (k : Int) := by omega
      have b1 : (k : Int) < (e.n : Int) := by omega
      have hT := atSum_take _ _ _ hx
      have hle := atSum_le e.ats (k + 1)
      have hxs : x.size = x.sp.size + x.lo.size + x.va.size := rfl
      have hz := Z.out
      generalize hS : e.sp.size + e.lo.size + e.tx.size + atSum (e.ats.take k) = S at *
      have s3 : IntKind.i64.wrap ((S : Int) + x.sp.size) = (S : Int) + x.sp.size := IntWalk.i64_in _ (by omega)
      have s4 : IntKind.i64.wrap ((S : Int) + x.sp.size + x.lo.size) = (S : Int) + x.sp.size + x.lo.size := IntWalk.i64_in _ (by omega)
      have s5 : IntKind.i64.wrap ((S : Int) + x.sp.size + x.lo.size + x.va.size) = (S : Int) + x.sp.size + x.lo.size + x.va.size := IntWalk.i64_in _ (by omega)
      have E : Hid (((S : Int) + x.sp.size + x.lo.size + x.va.size) = ((e.sp.size + e.lo.size + e.tx.size + atSum (e.ats.take (k + 1)) : Nat) : Int)) := by show _ = _; rw [hT, hxs]; omega
      clear hT hle hxs hz hx hS
      rw [hA] at c3 ⊢
      go_wp2_with fail
      go_quiet (fail)
      go_wp2
      go_roundw
      case rel => exact ⟨k + 1, _, by omega, by go_num, by rw [E.out], rfl⟩
      case measure => simp [intOf]; omega
    · obtain rfl : k = e.n := by omega
      go_wp2
      go_ret
      refine ⟨?_, B.out.trans (below_drewN _ _ _)⟩
      rw [Z.out, ← H.out.1, List.take_length]
      rfl
/-- Are events more than statements ask? -/
def greatB (n : Nat) (l : List Ev) : Bool := decide (100 < n) || decide (5000 < evSum l)
set_option maxHeartbeats 2000000 in
theorem great_any (A : Option Addr) (n c : Nat) (l : List Ev) (w : World) (hl : EvsAt w A n l) (hs : evSum l ≤ 1099511627776) :
    Calls Tryd.prog 12 #[.slice A n c] w (BelB (greatB n l) w) := by
  have L := Lib.hid hl
  have N := Lib.hid hl.1
  clear hl
  go_enter Tryd.func12, Tryd.ntmps12
  go_wp2
  go_loopw [3, 4] (fun s i wr => ∃ (k : Nat), k ≤ n ∧ k ≤ 200 ∧ i = .int .i64 k ∧ s = .int .i64 ((evSum (l.take k) : Nat) : Int) ∧ Hid (Below w.heap.size w wr)) (fun _ i _ => n - (intOf i).toNat)
  case atStart => exact ⟨0, by omega, by omega, rfl, rfl, Below.refl _ _⟩
  case round =>
    obtain ⟨k, hk, hk2, rfl, rfl, HB⟩ := hrel
    have hs1 := evSum_le l k
    by_cases hlt : k < n
    · by_cases hlt2 : k < 200
      · have b0 : (0 : Int) ≤ (k : Int) := by omega
        have b1 : (k : Int) < (n : Int) := by omega
        have b2 : (k : Int) < 200 := by omega
        obtain ⟨a, e, rfl, hx, he, hok⟩ := L.out.2 k hlt
        have hT := evSum_take _ _ _ hx
        have hle := evSum_le l (k + 1)
        have hall : e.all = e.size + e.n := rfl
        have E := Lib.hid he
        have OK := Lib.hid hok
        have B0 := E.out.1
        generalize hS : evSum (l.take k) = S at *
        have T := Lib.hid (show (S : Int) + e.size + e.n = (evSum (l.take (k + 1)) : Nat) by rw [hT, hall]; omega)
        have hes : e.size ≤ 1099511627776 := by omega
        have s1 : IntKind.i64.wrap ((S : Int) + e.size) = (S : Int) + e.size := IntWalk.i64_in _ (by omega)
        have s2 : IntKind.i64.wrap ((S : Int) + e.size + e.n) = (S : Int) + e.size + e.n := IntWalk.i64_in _ (by omega)
        clear hx he hok hT hle hall hS
        obtain ⟨_, g0, g1, g2, g3, g4⟩ := E.out.below (HB.out.trans (below_drew _ wr)) B0
        go_wp2_with fail
        go_region_held3 (fun w' => w'.cell? (a.add (k * 5)) = some (.int .i64 e.k) ∧ w'.cell? ⟨(a.add (k * 5)).block, (a.add (k * 5)).off + 1, none⟩ = some (.string e.sp) ∧ w'.cell? ⟨(a.add (k * 5)).block, (a.add (k * 5)).off + 2, none⟩ = some (.string e.lo) ∧ w'.cell? ⟨(a.add (k * 5)).block, (a.add (k * 5)).off + 3, none⟩ = some (.slice e.A e.n e.c) ∧ w'.cell? ⟨(a.add (k * 5)).block, (a.add (k * 5)).off + 4, none⟩ = some (.string e.tx))
          (first | exact ⟨g0, g1, g2, g3, g4⟩ | exact ⟨i0, i1, i2, i3, i4⟩)
          (first | (go_at_call 27; refine (evBytes_any e _ (OK.out.below (HB.out.trans (below_drew _ wr))) hes).mono ?_; rintro x w2 ⟨rfl, hB1⟩; have hB2 := HB.out.trans ((below_drew _ wr).trans (hB1.mono HB.out.size)); obtain ⟨_, i0, i1, i2, i3, i4⟩ := E.out.below hB2 B0))
        go_wp2
        go_roundw
        case rel => exact ⟨k + 1, by omega, by omega, by go_num, by rw [T.out], hB2⟩
        case measure => simp [intOf]; omega
      · have b2 : ¬ (k : Int) < 200 := by omega
        have b3 : (100 : Int) < (n : Int) := by omega
        have G : Hid (greatB n l = true) := by show _ = _; unfold greatB; simp; omega
        go_wp2
        go_ret
        exact ⟨by rw [G.out]; rfl, HB.out⟩
    · obtain rfl : k = n := by omega
      have hT : evSum (l.take k) = evSum l := by rw [← N.out, List.take_length]
      rw [hT]
      by_cases h1 : 100 < k
      · have b3 : (100 : Int) < (k : Int) := by omega
        have G : Hid (greatB k l = true) := by show _ = _; unfold greatB; simp; omega
        go_wp2
        go_ret
        exact ⟨by rw [G.out]; rfl, HB.out⟩
      · have b3 : ¬ (100 : Int) < (k : Int) := by omega
        by_cases h2 : 5000 < evSum l
        · have b4 : (5000 : Int) < (evSum l : Int) := by omega
          have G : Hid (greatB k l = true) := by show _ = _; unfold greatB; simp; omega
          go_wp2
          go_ret
          exact ⟨by rw [G.out]; rfl, HB.out⟩
        · have b4 : ¬ (5000 : Int) < (evSum l : Int) := by omega
          have G : Hid (greatB k l = false) := by show _ = _; unfold greatB; simp; omega
          go_wp2
          go_ret
          exact ⟨by rw [G.out]; rfl, HB.out⟩
end Go.Proofs.YtlifdmehejehjaaDoor
