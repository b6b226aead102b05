/- The page's example of layer 42 (narthexlaw42.live). Conditions: none. -/
import Derived.Test.YtdhgkbghlkhfeaaDiffFind
import Derived.Test.YtdhgkbghlkhfeaaDiffSpan
namespace Go.Proofs.Ytdhgkbghlkhfeaa
open Go.RowKit
def evCells (l : List Ev) : List Value := l.flatMap fun e => [.int .i64 e.k, .string e.sp, .string e.lo, .slice e.A e.n e.c, .string e.tx]
theorem evCells_at (l : List Ev) (i : Nat) (e : Ev) (hx : l[i]? = some e) : (evCells l)[i * 5]? = some (.int .i64 e.k) ∧ (evCells l)[i * 5 + 1]? = some (.string e.sp) ∧ (evCells l)[i * 5 + 2]? = some (.string e.lo) ∧ (evCells l)[i * 5 + 3]? = some (.slice e.A e.n e.c) ∧ (evCells l)[i * 5 + 4]? = some (.string e.tx) := by
  induction l generalizing i with
  | nil => simp at hx
  | cons f l ih =>
    cases i with
    | zero => simp at hx; subst hx; simp [evCells]
    | succ i =>
      have h := ih i (by simpa using hx)
      have e1 : (i + 1) * 5 = i * 5 + 1 + 1 + 1 + 1 + 1 := by omega
      simp only [evCells, List.flatMap_cons, List.cons_append, List.nil_append, e1] at h ⊢
      have r : ∀ j, i * 5 + 1 + 1 + 1 + 1 + 1 + j = (i * 5 + j) + 1 + 1 + 1 + 1 + 1 := fun j => by omega
      refine ⟨by simpa using h.1, ?_, ?_, ?_, ?_⟩
      · rw [r 1]; simpa using h.2.1
      · rw [r 2]; simpa using h.2.2.1
      · rw [r 3]; simpa using h.2.2.2.1
      · rw [r 4]; simpa using h.2.2.2.2
theorem cell_lit (w : World) (xs : List Value) (t : TypeId) (g j : Nat) (hg : g = w.heap.size) : (w.alloc (.cells xs.toArray t)).cell? ⟨g, j, none⟩ = xs[j]? := by subst hg; simp
/-- A row of events that the call has laid. -/
theorem evsAt_lit (w : World) (l : List Ev) (t : TypeId) (g : Nat) (hg : g = w.heap.size) (hok : ∀ e ∈ l, EvOk w e) :
    EvsAt (w.alloc (.cells (evCells l).toArray t)) (some ⟨g, 0, none⟩) l.length l := by
  have hB : Below w.heap.size w (w.alloc (.cells (evCells l).toArray t)) := (Below.refl _ w).alloc (Nat.le_refl _) _
  refine ⟨rfl, fun i hi => ?_⟩
  obtain ⟨h0, h1, h2, h3, h4⟩ := evCells_at l i l[i] (List.getElem?_eq_getElem hi)
  have ha : (⟨g, 0, none⟩ : Addr).add (i * 5) = ⟨g, i * 5, none⟩ := by unfold Addr.add; split <;> simp_all
  refine ⟨_, l[i], rfl, List.getElem?_eq_getElem hi, ?_, (hok _ (List.getElem_mem hi)).below hB⟩
  rw [ha]
  refine ⟨by simp; omega, (cell_lit w _ t g _ hg).trans h0, (cell_lit w _ t g _ hg).trans h1, (cell_lit w _ t g _ hg).trans h2, (cell_lit w _ t g _ hg).trans h3, (cell_lit w _ t g _ hg).trans h4⟩
def lv (k : Int) (b : UInt8) : Ev := ⟨k, ⟨#[]⟩, ⟨#[b]⟩, none, 0, 0, ⟨#[]⟩, []⟩
def liveL : List Ev := [lv 1 97, lv 1 98, lv 2 98, lv 2 97]
theorem lv_ok (w : World) (k : Int) (b : UInt8) : EvOk w (lv k b) := ⟨⟨rfl, fun i hi => by simp [lv] at hi⟩, Nat.le_refl _, by simp [lv]⟩
theorem live_ok (w : World) : ∀ e ∈ liveL, EvOk w e := by
  intro e he
  simp only [liveL, List.mem_cons, List.not_mem_nil, or_false] at he
  rcases he with rfl | rfl | rfl | rfl <;> exact lv_ok w _ _
theorem live_path : pathP (liveL.take 2) = [⟨#[97]⟩, ⟨#[98]⟩] := by decide +kernel
theorem live_span : spanR liveL 0 = (3, 0) := by decide +kernel
theorem live_find : findK liveL [⟨#[97]⟩, ⟨#[98]⟩] 4 = [1] := by decide +kernel
theorem strsAt_lit (w : World) (l : List ByteArray) (t : TypeId) (g : Nat) (hg : g = w.heap.size) : StrsAt (w.alloc (.cells (strCells l).toArray t)) (some ⟨g, 0, none⟩) l.length l := by
  refine ⟨rfl, fun i hi => ⟨_, l[i], rfl, List.getElem?_eq_getElem hi, by simp; omega, ?_⟩⟩
  have ha : (⟨g, 0, none⟩ : Addr).add i = ⟨g, i, none⟩ := by unfold Addr.add; split <;> simp_all
  rw [ha, cell_lit w _ t g _ hg]
  unfold strCells; rw [List.getElem?_map, List.getElem?_eq_getElem hi]; rfl
theorem intsAt_lit (w : World) (l : List Int) (t : TypeId) (g : Nat) (hg : g = w.heap.size) : IntsAt (w.alloc (.cells (numCells l).toArray t)) (some ⟨g, 0, none⟩) l.length l := by
  refine ⟨rfl, fun i hi => ⟨_, l[i], rfl, List.getElem?_eq_getElem hi, by simp; omega, ?_⟩⟩
  have ha : (⟨g, 0, none⟩ : Addr).add i = ⟨g, i, none⟩ := by unfold Addr.add; split <;> simp_all
  rw [ha, cell_lit w _ t g _ hg]
  unfold numCells; rw [List.getElem?_map, List.getElem?_eq_getElem hi]; rfl
set_option maxHeartbeats 4000000 in
theorem live42_any (w : World) : Calls Try.prog 7 #[] w (BelB true w) := by
  go_enter Try.func7, Try.ntmps7
  go_wp2_with fail
  have HE := evsAt_lit ((w.alloc (.cells #[.string ⟨#[]⟩, .string ⟨#[97]⟩] 28)).alloc (.cells #[.string ⟨#[]⟩, .string ⟨#[98]⟩] 28)) liveL 31 (w.heap.size + 1 + 1) (by simp) (live_ok _)
  have HB := (((Below.refl w.heap.size w).alloc (Nat.le_refl _) (.cells #[.string ⟨#[]⟩, .string ⟨#[97]⟩] 28)).alloc (by simp) (.cells #[.string ⟨#[]⟩, .string ⟨#[98]⟩] 28)).alloc (by simp; omega) (.cells (evCells liveL).toArray 31)
  have ecells : evCells liveL = [.int .i64 1, .string ⟨#[]⟩, .string ⟨#[97]⟩, .slice none 0 0, .string ⟨#[]⟩, .int .i64 1, .string ⟨#[]⟩, .string ⟨#[98]⟩, .slice none 0 0, .string ⟨#[]⟩, .int .i64 2, .string ⟨#[]⟩, .string ⟨#[98]⟩, .slice none 0 0, .string ⟨#[]⟩, .int .i64 2, .string ⟨#[]⟩, .string ⟨#[97]⟩, .slice none 0 0, .string ⟨#[]⟩] := rfl
  rw [ecells] at HE HB
  generalize ((w.alloc (.cells #[.string ⟨#[]⟩, .string ⟨#[97]⟩] 28)).alloc (.cells #[.string ⟨#[]⟩, .string ⟨#[98]⟩] 28)).alloc (.cells _ 31) = V at *
  clear ecells
  have E0 := Lib.hid HE
  have B0 := Lib.hid HB
  clear HE HB
  refine (path_any (some ⟨w.heap.size + 1 + 1, 0, none⟩) 4 4 liveL 2 V E0.out (by omega) (by omega) (by omega) (by omega)).mono ?_
  rintro x w1 ⟨A1, c1, rfl, hS1, hc1, _, hB1⟩
  rw [live_path] at hS1 hc1 ⊢
  have B1 := Lib.hid (B0.out.trans (hB1.mono B0.out.size))
  have E1 := Lib.hid (E0.out.below hB1)
  have S1 := Lib.hid hS1
  clear hS1 hB1
  go_wp2_with fail
  refine (span_any (some ⟨w.heap.size + 1 + 1, 0, none⟩) 4 4 liveL 0 _ w1 E1.out (by omega) (by omega) rfl).mono ?_
  rintro x w2 ⟨rfl, hB2⟩
  rw [live_span]
  have B2 := Lib.hid (B1.out.trans (hB2.mono B1.out.size))
  have E2 := Lib.hid (E1.out.below hB2)
  have S2 := Lib.hid (S1.out.below hB2)
  clear hB2
  go_wp2_with fail
  have hL := strsAt_lit w2 [⟨#[97]⟩, ⟨#[98]⟩] 9 w2.heap.size rfl
  have hB3 : Below w2.heap.size w2 (w2.alloc (.cells #[.string ⟨#[97]⟩, .string ⟨#[98]⟩] 9)) := (Below.refl _ w2).alloc (Nat.le_refl _) _
  have hS3 := S2.out.below hB3
  have B3 := Lib.hid (B2.out.trans (hB3.mono B2.out.size))
  have E3 := Lib.hid (E2.out.below hB3)
  refine (texts_any A1 2 c1 [⟨#[97]⟩, ⟨#[98]⟩] _ 2 2 [⟨#[97]⟩, ⟨#[98]⟩] _ hS3 hL (by omega)).mono ?_
  rintro x w3 ⟨rfl, d, rfl⟩
  rw [decide_eq_true (rfl : ([⟨#[97]⟩, ⟨#[98]⟩] : List ByteArray) = [⟨#[97]⟩, ⟨#[98]⟩])]
  have B4 := Lib.hid (B3.out.trans (below_drewN _ _ d))
  have E4 := Lib.hid (E3.out.below (below_drewN _ _ d))
  have S4 := Lib.hid (hS3.below (below_drewN _ _ d))
  clear hL hB3 hS3
  generalize (w2.alloc (.cells #[.string ⟨#[97]⟩, .string ⟨#[98]⟩] 9)).drewN d = V4 at *
  go_wp2_with fail
  refine (find_any (some ⟨w.heap.size + 1 + 1, 0, none⟩) 4 4 liveL A1 2 c1 [⟨#[97]⟩, ⟨#[98]⟩] V4 E4.out (by omega) S4.out).mono ?_
  rintro x w5 ⟨A5, c5, rfl, hI5, hB5⟩
  rw [live_find] at hI5 ⊢
  have B5 := Lib.hid (B4.out.trans (hB5.mono B4.out.size))
  clear hB5
  go_wp2_with fail
  have hL := intsAt_lit w5 [1] 3 w5.heap.size rfl
  have hB6 : Below w5.heap.size w5 (w5.alloc (.cells #[.int .i64 1] 3)) := (Below.refl _ w5).alloc (Nat.le_refl _) _
  have B6 := Lib.hid (B5.out.trans (hB6.mono B5.out.size))
  refine (ints_any A5 1 c5 [1] _ 1 1 [1] _ (hI5.below hB6) hL (by omega)).mono ?_
  rintro x w6 ⟨rfl, d6, rfl⟩
  rw [decide_eq_true (rfl : ([1] : List Int) = [1])]
  clear hL hI5 hB6
  go_wp2
  go_ret
  exact ⟨rfl, B6.out.trans (below_drewN _ _ _)⟩
end Go.Proofs.Ytdhgkbghlkhfeaa
