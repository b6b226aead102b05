/- The walk of JoinAlls. Conditions: the events count together at most 2^20. -/
import Derived.Test.YtijofagmddhmgaaJoinPlain
namespace Go.Proofs.Ytijofagmddhmgaa
open Go.RowKit
theorem cell_litJ (w : World) (xs : List Value) (t : TypeId) (g j : Nat) (hg : g = w.heap.size) : (w.alloc (.cells xs.toArray t)).cell? ⟨g, j, none⟩ = xs[j]? := by subst hg; simp
theorem evsAt_litJ (w : World) (l : List Ev) (t : TypeId) (g : Nat) (hg : g = w.heap.size) (hok : ∀ e ∈ l, EvOk w e) :
    EvsAt (w.alloc (.cells (evCells l).toArray t)) (some ⟨g, 0, none⟩) l.length l := by
  have hB : Below w.heap.size w (w.alloc (.cells (evCells l).toArray t)) := (Below.refl _ w).alloc (Nat.le_refl _) _
  refine ⟨rfl, fun i hi => ?_⟩
  obtain ⟨h0, h1, h2, h3, h4⟩ := evCells_at l i l[i] (List.getElem?_eq_getElem hi)
  have ha : (⟨g, 0, none⟩ : Addr).add (i * 5) = ⟨g, i * 5, none⟩ := by unfold Addr.add; split <;> simp_all
  refine ⟨_, l[i], rfl, List.getElem?_eq_getElem hi, ?_, (hok _ (List.getElem_mem hi)).below hB⟩
  rw [ha]
  refine ⟨by simp; omega, (cell_litJ w _ t g _ hg).trans h0, (cell_litJ w _ t g _ hg).trans h1, (cell_litJ w _ t g _ hg).trans h2, (cell_litJ w _ t g _ hg).trans h3, (cell_litJ w _ t g _ hg).trans h4⟩
def lj (k : Int) (t : ByteArray) : Ev := ⟨k, ⟨#[]⟩, ⟨#[]⟩, none, 0, 0, t, []⟩
theorem lj_ok (w : World) (l : List (Int × ByteArray)) : ∀ e ∈ l.map (fun x => lj x.1 x.2), EvOk w e := by
  intro e he
  obtain ⟨x, _, rfl⟩ := List.mem_map.1 he
  exact ⟨⟨rfl, fun i hi => by simp [lj] at hi⟩, Nat.le_refl _, by simp [lj]⟩
def ljA : List Ev := [(3, ⟨#[97]⟩), (3, ⟨#[98]⟩), (5, ⟨#[]⟩), (3, ⟨#[]⟩), (3, ⟨#[99]⟩)].map fun x => lj x.1 x.2
def ljB : List Ev := [(3, ⟨#[97, 98]⟩), (5, ⟨#[]⟩), (3, ⟨#[99]⟩)].map fun x => lj x.1 x.2
theorem lj_all : sameEvs (allJ ljA) ljB = true := by decide +kernel
theorem ljA_cells : evCells ljA = [.int .i64 3, .string ⟨#[]⟩, .string ⟨#[]⟩, .slice none 0 0, .string ⟨#[97]⟩, .int .i64 3, .string ⟨#[]⟩, .string ⟨#[]⟩, .slice none 0 0, .string ⟨#[98]⟩, .int .i64 5, .string ⟨#[]⟩, .string ⟨#[]⟩, .slice none 0 0, .string ⟨#[]⟩, .int .i64 3, .string ⟨#[]⟩, .string ⟨#[]⟩, .slice none 0 0, .string ⟨#[]⟩, .int .i64 3, .string ⟨#[]⟩, .string ⟨#[]⟩, .slice none 0 0, .string ⟨#[99]⟩] := rfl
theorem ljB_cells : evCells ljB = [.int .i64 3, .string ⟨#[]⟩, .string ⟨#[]⟩, .slice none 0 0, .string ⟨#[97, 98]⟩, .int .i64 5, .string ⟨#[]⟩, .string ⟨#[]⟩, .slice none 0 0, .string ⟨#[]⟩, .int .i64 3, .string ⟨#[]⟩, .string ⟨#[]⟩, .slice none 0 0, .string ⟨#[99]⟩] := rfl
set_option maxHeartbeats 2000000 in
theorem live37_any (w : World) : Calls Try.prog 15 #[] w (BelB true w) := by
  go_enter Try.func15, Try.ntmps15
  go_wp2_with fail
  have HE := evsAt_litJ w ljA 31 w.heap.size rfl (lj_ok w _)
  rw [ljA_cells] at HE
  have HB : Below w.heap.size w (w.alloc (.cells (evCells ljA).toArray 31)) := (Below.refl _ w).alloc (Nat.le_refl _) _
  rw [ljA_cells] at HB
  refine (all_any (some ⟨w.heap.size, 0, none⟩) 5 5 ljA _ HE (by omega) (by decide +kernel)).mono ?_
  rintro x w1 ⟨outs, A1, c1, rfl, hs, hE1, _, _, hB1⟩
  have B1 := Lib.hid (HB.trans (hB1.mono HB.size))
  have E1 := Lib.hid hE1
  have S1 := Lib.hid (sameEvs_trans hs lj_all)
  have hln : outs.length = 3 := ((sameEvs_iff _ _).1 S1.out).1
  have HL := Lib.hid hln
  clear HE HB hB1 hE1 hs hln
  go_wp2_with fail
  have HE2 := evsAt_litJ w1 ljB 31 w1.heap.size rfl (lj_ok w1 _)
  have hB2 : Below w1.heap.size w1 (w1.alloc (.cells (evCells ljB).toArray 31)) := (Below.refl _ w1).alloc (Nat.le_refl _) _
  rw [ljB_cells] at HE2 hB2
  refine (same_any A1 outs.length c1 outs (some ⟨w1.heap.size, 0, none⟩) 3 3 ljB _ (E1.out.below hB2) HE2 (by rw [HL.out]; omega)).mono ?_
  rintro x w2 ⟨rfl, hB3⟩
  rw [S1.out]
  have B2 := B1.out.trans (hB2.mono B1.out.size)
  go_wp2
  go_ret
  exact ⟨rfl, B2.trans (hB3.mono B2.size)⟩
set_option maxHeartbeats 4000000 in
theorem alls_any (A : Option Addr) (n c : Nat) (l : List Ev) (w : World) (hl : EvsAt w A n l) (hn : n ≤ 1048576) (hs : evSum l ≤ 1048576) :
    Calls Try.prog 4 #[.slice A n c] w (BelB true w) := by
  have L := Lib.hid hl
  have G1 := Lib.hid (great_any A n c l w hl (by omega))
  have hsum := Lib.hid (show sumM l ≤ 1048576 by rw [← sumM_ok hl.ok]; exact hs)
  clear hl
  cases hg : greatB n l with
  | true =>
    have H1 := Lib.hid hg
    clear hg
    go_enter Try.func4, Try.ntmps4
    go_wp2_with fail
    refine G1.out.mono ?_
    rintro x w1 ⟨rfl, hC⟩
    rw [H1.out]
    go_wp2_with fail
    refine (live37_any _).mono ?_
    rintro x w9 ⟨rfl, hB9⟩
    go_wp2
    go_ret
    exact ⟨rfl, hC.trans (hB9.mono hC.size)⟩
  | false =>
    have H1 := Lib.hid hg
    have hn1 : n ≤ 100 := by unfold greatB at hg; simp at hg; omega
    clear hg
    go_enter Try.func4, Try.ntmps4
    go_wp2_with fail
    refine G1.out.mono ?_
    rintro x w1 ⟨rfl, hC⟩
    rw [H1.out]
    go_wp2_with fail
    refine (all_any A n c l w1 (L.out.below hC) hn hs).mono ?_
    rintro x w2 ⟨outs, A2, c2, rfl, hsame, hE2, _, _, hB2⟩
    have hC := hC.trans (hB2.mono hC.size)
    have E2 := Lib.hid hE2
    have S2 := Lib.hid hsame
    have hol : outs.length ≤ 201 := by
      have h1 := ((sameEvs_iff _ _).1 hsame).1
      have h2 : (allJ l).length ≤ 2 * l.length + 1 := by have := flushJ_len (runJ l l.length); have := runJ_len l l.length; unfold allJ; omega
      have := L.out.1
      omega
    have hos : evSum outs ≤ 1048576 := by rw [sumM_ok hE2.ok, sumM_same hsame]; exact Nat.le_trans (sumM_all l) hsum.out
    clear hE2 hsame hB2
    go_wp2_with fail
    refine (rall_any A n c l w2 (L.out.below hC) hn hs).mono ?_
    rintro x w3 ⟨A3, c3, rfl, hE3, _, _, hB3⟩
    have hC := hC.trans (hB3.mono hC.size)
    have E3 := Lib.hid hE3
    have E2b := Lib.hid (E2.out.below hB3)
    clear hE3 hB3
    go_wp2_with fail
    refine (same_any A2 outs.length c2 outs A3 (allJ l).length c3 (allJ l) w3 E2b.out E3.out (by omega)).mono ?_
    rintro x w4 ⟨rfl, hB4⟩
    rw [S2.out]
    have hC := hC.trans (hB4.mono hC.size)
    have E2c := Lib.hid (E2b.out.below hB4)
    clear hB4
    go_wp2_with fail
    refine (all_any A2 outs.length c2 outs w4 E2c.out (by omega) hos).mono ?_
    rintro x w5 ⟨outs2, A5, c5, rfl, hsame5, hE5, _, _, hB5⟩
    have hC := hC.trans (hB5.mono hC.size)
    have E2d := Lib.hid (E2c.out.below hB5)
    have S5 := Lib.hid (same_again S2.out hsame5)
    have hol5 : outs2.length = outs.length := ((sameEvs_iff _ _).1 S5.out).1
    have HL5 := Lib.hid hol5
    have E5 := Lib.hid hE5
    clear hsame5 hE5 hB5 hol5
    go_wp2_with fail
    refine (same_any A5 outs2.length c5 outs2 A2 outs.length c2 outs w5 E5.out E2d.out (by rw [HL5.out]; omega)).mono ?_
    rintro x w6 ⟨rfl, hB6⟩
    rw [S5.out]
    have hC := hC.trans (hB6.mono hC.size)
    clear hB6
    go_wp2_with fail
    refine (live37_any _).mono ?_
    rintro x w9 ⟨rfl, hB9⟩
    go_wp2
    go_ret
    exact ⟨rfl, hC.trans (hB9.mono hC.size)⟩
end Go.Proofs.Ytijofagmddhmgaa
