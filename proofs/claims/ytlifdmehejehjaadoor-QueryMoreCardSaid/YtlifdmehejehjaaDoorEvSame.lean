/- The contracts of narthexref29.One and Same: are two events, two rows of events, the same? Conditions: none. -/
import Derived.Test.YtlifdmehejehjaaDoorEvGreat
import Derived.Laws.Strings
import Derived.WideShapes
namespace Go.Proofs.YtlifdmehejehjaaDoor
open Go.RowKit
theorem toL_inj {a b : ByteArray} : a.toList = b.toList ↔ a = b := by
  rw [ByteArray.toList_eq, ByteArray.toList_eq]
  exact ⟨Go.WideShapes.bytes_inj, fun h => by rw [h]⟩
theorem toL_no {a b : ByteArray} (h : ¬ a = b) : (a.toList == b.toList) = false := by
  rw [beq_eq_false_iff_ne]; exact fun h' => h (toL_inj.1 h')
theorem toL_yes (a : ByteArray) : (a.toList == a.toList) = true := by simp
theorem nameNeq (a b c d : ByteArray) (w : World) : (binOp .neq 37 (.agg #[.string a, .string b]) (.agg #[.string c, .string d])).run Tryd.prog w = .ok (.bool (!decide (a = c ∧ b = d))) w := by
  go_simp
  simp only [toL_inj]
  by_cases h1 : a = c <;> by_cases h2 : b = d <;> simp [h1, h2]
theorem nameEql (a b c d : ByteArray) (w : World) : (binOp .eql 37 (.agg #[.string a, .string b]) (.agg #[.string c, .string d])).run Tryd.prog w = .ok (.bool (decide (a = c ∧ b = d))) w := by
  go_simp
  simp only [toL_inj]
  by_cases h1 : a = c <;> by_cases h2 : b = d <;> simp [h1, h2]
theorem attrNeq (x y : At) (w : World) : (binOp .neq 80 (.agg #[.string x.sp, .string x.lo, .string x.va]) (.agg #[.string y.sp, .string y.lo, .string y.va])).run Tryd.prog w = .ok (.bool (!decide (x = y))) w := by
  obtain ⟨a, b, c⟩ := x
  obtain ⟨a', b', c'⟩ := y
  go_simp
  simp only [toL_inj]
  by_cases h1 : a = a' <;> by_cases h2 : b = b' <;> by_cases h3 : c = c' <;> simp [h1, h2, h3]
theorem attrEql (x y : At) (w : World) : (binOp .eql 80 (.agg #[.string x.sp, .string x.lo, .string x.va]) (.agg #[.string y.sp, .string y.lo, .string y.va])).run Tryd.prog w = .ok (.bool (decide (x = y))) w := by
  obtain ⟨a, b, c⟩ := x
  obtain ⟨a', b', c'⟩ := y
  go_simp
  simp only [toL_inj]
  by_cases h1 : a = a' <;> by_cases h2 : b = b' <;> by_cases h3 : c = c' <;> simp [h1, h2, h3]
theorem strNeq (a b : ByteArray) (w : World) : (binOp .neq 9 (.string a) (.string b)).run Tryd.prog w = .ok (.bool (!decide (a = b))) w := by
  go_simp
  by_cases h : a = b
  · subst h; simp
  · rw [toL_no h]; simp [h]
/-- Two boxed events. -/
theorem evBox2 (w : World) (e f : Ev) (t : TypeId) : ∃ W, (w.alloc (.cells #[.int .i64 e.k, .string e.sp, .string e.lo, .slice e.A e.n e.c, .string e.tx] t)).alloc (.cells #[.int .i64 f.k, .string f.sp, .string f.lo, .slice f.A f.n f.c, .string f.tx] t) = W ∧ Below w.heap.size w W ∧
    (W.cell? ⟨w.heap.size, 0, none⟩ = some (.int .i64 e.k) ∧ W.cell? ⟨w.heap.size, 1, none⟩ = some (.string e.sp) ∧ W.cell? ⟨w.heap.size, 2, none⟩ = some (.string e.lo) ∧
    W.cell? ⟨w.heap.size, 3, none⟩ = some (.slice e.A e.n e.c) ∧ W.cell? ⟨w.heap.size, 4, none⟩ = some (.string e.tx)) ∧
    (W.cell? ⟨w.heap.size + 1, 0, none⟩ = some (.int .i64 f.k) ∧ W.cell? ⟨w.heap.size + 1, 1, none⟩ = some (.string f.sp) ∧ W.cell? ⟨w.heap.size + 1, 2, none⟩ = some (.string f.lo) ∧
    W.cell? ⟨w.heap.size + 1, 3, none⟩ = some (.slice f.A f.n f.c) ∧ W.cell? ⟨w.heap.size + 1, 4, none⟩ = some (.string f.tx)) := by
  obtain ⟨W, hW, hB, c0, c1, c2, c3, c4⟩ := evBox w e t
  obtain ⟨V, hV, hB2, d0, d1, d2, d3, d4⟩ := evBox W f t
  have hs : W.heap.size = w.heap.size + 1 := by rw [← hW]; simp
  rw [hs] at d0 d1 d2 d3 d4
  have lt : w.heap.size < W.heap.size := by omega
  refine ⟨V, by rw [hW]; exact hV, hB.trans (hB2.mono hB.size), ⟨(hB2.cell (p := ⟨w.heap.size, 0, none⟩) lt).trans c0, (hB2.cell (p := ⟨w.heap.size, 1, none⟩) lt).trans c1, (hB2.cell (p := ⟨w.heap.size, 2, none⟩) lt).trans c2, (hB2.cell (p := ⟨w.heap.size, 3, none⟩) lt).trans c3, (hB2.cell (p := ⟨w.heap.size, 4, none⟩) lt).trans c4⟩, d0, d1, d2, d3, d4⟩
/-- Are two events the same? -/
def sameEv (e f : Ev) : Bool := decide (e.k = f.k ∧ (e.sp = f.sp ∧ e.lo = f.lo) ∧ e.tx = f.tx ∧ e.ats = f.ats)
theorem takes_eq {l m : List At} {k : Nat} {x : At} (h : l.take k = m.take k) (hx : l[k]? = some x) (hy : m[k]? = some x) : l.take (k + 1) = m.take (k + 1) := by
  rw [List.take_add_one, List.take_add_one, h, hx, hy]
/-- Are two rows of events the same? -/
def sameEvs : List Ev → List Ev → Bool
  | [], [] => true
  | e :: l, f :: m => sameEv e f && sameEvs l m
  | _, _ => false
theorem sameEvs_iff (l m : List Ev) : sameEvs l m = true ↔ l.length = m.length ∧ ∀ (i : Nat) (e f : Ev), l[i]? = some e → m[i]? = some f → sameEv e f = true := by
  induction l generalizing m with
  | nil => cases m <;> simp [sameEvs]
  | cons e l ih =>
    cases m with
    | nil => simp [sameEvs]
    | cons f m =>
      simp only [sameEvs, Bool.and_eq_true, ih m, List.length_cons]
      constructor
      · rintro ⟨h0, h1, h2⟩
        refine ⟨by omega, fun i x y hx hy => ?_⟩
        cases i with
        | zero => simp at hx hy; subst hx hy; exact h0
        | succ i => exact h2 i x y (by simpa using hx) (by simpa using hy)
      · rintro ⟨h1, h2⟩
        exact ⟨h2 0 e f rfl rfl, by omega, fun i x y hx hy => h2 (i + 1) x y (by simpa using hx) (by simpa using hy)⟩
theorem sameEvs_no {l m : List Ev} {i : Nat} {e f : Ev} (hx : l[i]? = some e) (hy : m[i]? = some f) (h : sameEv e f = false) : sameEvs l m = false := by
  cases hs : sameEvs l m with
  | false => rfl
  | true => rw [((sameEvs_iff l m).1 hs).2 i e f hx hy] at h; cases h
theorem sameEvs_len {l m : List Ev} (h : ¬ l.length = m.length) : sameEvs l m = false := by
  cases hs : sameEvs l m with
  | false => rfl
  | true => exact absurd ((sameEvs_iff l m).1 hs).1 h
end Go.Proofs.YtlifdmehejehjaaDoor
