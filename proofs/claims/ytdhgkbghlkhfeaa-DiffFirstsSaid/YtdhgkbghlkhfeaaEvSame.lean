/- The contracts of narthexref29.One and Same: are two events, two rows of events, the same? Conditions: none. -/
import Derived.Test.YtdhgkbghlkhfeaaEvGreat
import Derived.Laws.Strings
import Derived.WideShapes
namespace Go.Proofs.Ytdhgkbghlkhfeaa
open Go.RowKit
theorem toL_inj {a b : ByteArray} : a.toList = b.toList ↔ a = b := by
  rw [ByteArray.toList_eq, ByteArray.toList_eq]
  exact ⟨Go.WideShapes.bytes_inj, fun h => by rw [h]⟩
theorem toL_no {a b : ByteArray} (h : ¬ a = b) : (a.toList == b.toList) = false := by
  rw [beq_eq_false_iff_ne]; exact fun h' => h (toL_inj.1 h')
theorem toL_yes (a : ByteArray) : (a.toList == a.toList) = true := by simp
theorem nameNeq (a b c d : ByteArray) (w : World) : (binOp .neq 28 (.agg #[.string a, .string b]) (.agg #[.string c, .string d])).run Try.prog w = .ok (.bool (!decide (a = c ∧ b = d))) w := by
  go_simp
  simp only [toL_inj]
  by_cases h1 : a = c <;> by_cases h2 : b = d <;> simp [h1, h2]
theorem nameEql (a b c d : ByteArray) (w : World) : (binOp .eql 28 (.agg #[.string a, .string b]) (.agg #[.string c, .string d])).run Try.prog w = .ok (.bool (decide (a = c ∧ b = d))) w := by
  go_simp
  simp only [toL_inj]
  by_cases h1 : a = c <;> by_cases h2 : b = d <;> simp [h1, h2]
theorem attrNeq (x y : At) (w : World) : (binOp .neq 58 (.agg #[.string x.sp, .string x.lo, .string x.va]) (.agg #[.string y.sp, .string y.lo, .string y.va])).run Try.prog w = .ok (.bool (!decide (x = y))) w := by
  obtain ⟨a, b, c⟩ := x
  obtain ⟨a', b', c'⟩ := y
  go_simp
  simp only [toL_inj]
  by_cases h1 : a = a' <;> by_cases h2 : b = b' <;> by_cases h3 : c = c' <;> simp [h1, h2, h3]
theorem attrEql (x y : At) (w : World) : (binOp .eql 58 (.agg #[.string x.sp, .string x.lo, .string x.va]) (.agg #[.string y.sp, .string y.lo, .string y.va])).run Try.prog w = .ok (.bool (decide (x = y))) w := by
  obtain ⟨a, b, c⟩ := x
  obtain ⟨a', b', c'⟩ := y
  go_simp
  simp only [toL_inj]
  by_cases h1 : a = a' <;> by_cases h2 : b = b' <;> by_cases h3 : c = c' <;> simp [h1, h2, h3]
theorem strNeq (a b : ByteArray) (w : World) : (binOp .neq 9 (.string a) (.string b)).run Try.prog w = .ok (.bool (!decide (a = b))) w := by
  go_simp
  by_cases h : a = b
  · subst h; simp
  · rw [toL_no h]; simp [h]
/-- Two boxed events. -/
theorem evBox2 (w : World) (e f : Ev) (t : TypeId) : ∃ W, (w.alloc (.cells #[.int .i64 e.k, .string e.sp, .string e.lo, .slice e.A e.n e.c, .string e.tx] t)).alloc (.cells #[.int .i64 f.k, .string f.sp, .string f.lo, .slice f.A f.n f.c, .string f.tx] t) = W ∧ Below w.heap.size w W ∧
    (W.cell? ⟨w.heap.size, 0, none⟩ = some (.int .i64 e.k) ∧ W.cell? ⟨w.heap.size, 1, none⟩ = some (.string e.sp) ∧ W.cell? ⟨w.heap.size, 2, none⟩ = some (.string e.lo) ∧
    W.cell? ⟨w.heap.size, 3, none⟩ = some (.slice e.A e.n e.c) ∧ W.cell? ⟨w.heap.size, 4, none⟩ = some (.string e.tx)) ∧
    (W.cell? ⟨w.heap.size + 1, 0, none⟩ = some (.int .i64 f.k) ∧ W.cell? ⟨w.heap.size + 1, 1, none⟩ = some (.string f.sp) ∧ W.cell? ⟨w.heap.size + 1, 2, none⟩ = some (.string f.lo) ∧
    W.cell? ⟨w.heap.size + 1, 3, none⟩ = some (.slice f.A f.n f.c) ∧ W.cell? ⟨w.heap.size + 1, 4, none⟩ = some (.string f.tx)) := by
  obtain ⟨W, hW, hB, c0, c1, c2, c3, c4⟩ := evBox w e t
  obtain ⟨V, hV, hB2, d0, d1, d2, d3, d4⟩ := evBox W f t
  have hs : W.heap.size = w.heap.size + 1 := by rw [← hW]; simp
  rw [hs] at d0 d1 d2 d3 d4
  have lt : w.heap.size < W.heap.size := by omega
  refine ⟨V, by rw [hW]; exact hV, hB.trans (hB2.mono hB.size), ⟨(hB2.cell (p := ⟨w.heap.size, 0, none⟩) lt).trans c0, (hB2.cell (p := ⟨w.heap.size, 1, none⟩) lt).trans c1, (hB2.cell (p := ⟨w.heap.size, 2, none⟩) lt).trans c2, (hB2.cell (p := ⟨w.heap.size, 3, none⟩) lt).trans c3, (hB2.cell (p := ⟨w.heap.size, 4, none⟩) lt).trans c4⟩, d0, d1, d2, d3, d4⟩
/-- Are two events the same? -/
def sameEv (e f : Ev) : Bool := decide (e.k = f.k ∧ (e.sp = f.sp ∧ e.lo = f.lo) ∧ e.tx = f.tx ∧ e.ats = f.ats)
theorem takes_eq {l m : List At} {k : Nat} {x : At} (h : l.take k = m.take k) (hx : l[k]? = some x) (hy : m[k]? = some x) : l.take (k + 1) = m.take (k + 1) := by
  rw [List.take_add_one, List.take_add_one, h, hx, hy]
theorem one_k (e f : Ev) (w : World) (h : ¬ e.k = f.k) :
    Calls Try.prog 30 #[.agg #[.int .i64 e.k, .string e.sp, .string e.lo, .slice e.A e.n e.c, .string e.tx], .agg #[.int .i64 f.k, .string f.sp, .string f.lo, .slice f.A f.n f.c, .string f.tx]] w (BelB false w) := by
  obtain ⟨W, hW, hB0, ⟨c0, c1, c2, c3, c4⟩, d0, d1, d2, d3, d4⟩ := evBox2 w e f 31
  have t0 : (e.k != f.k) = true := by simpa using h
  clear h
  go_enter Try.func30, Try.ntmps30
  go_wp2
  go_ret
  exact ⟨rfl, hB0⟩
theorem one_name (e f : Ev) (w : World) (h0 : e.k = f.k) (h : ¬ (e.sp = f.sp ∧ e.lo = f.lo)) :
    Calls Try.prog 30 #[.agg #[.int .i64 e.k, .string e.sp, .string e.lo, .slice e.A e.n e.c, .string e.tx], .agg #[.int .i64 f.k, .string f.sp, .string f.lo, .slice f.A f.n f.c, .string f.tx]] w (BelB false w) := by
  obtain ⟨W, hW, hB0, ⟨c0, c1, c2, c3, c4⟩, d0, d1, d2, d3, d4⟩ := evBox2 w e f 31
  have t0 : (e.k != f.k) = false := by simpa using h0
  have t1 := fun w' => (nameNeq e.sp e.lo f.sp f.lo w').trans (by rw [decide_eq_false h])
  clear h h0
  go_enter Try.func30, Try.ntmps30
  go_wp2
  go_ret
  exact ⟨rfl, hB0⟩
theorem one_text (e f : Ev) (w : World) (h0 : e.k = f.k) (h : e.sp = f.sp ∧ e.lo = f.lo) (h1 : ¬ e.tx = f.tx) :
    Calls Try.prog 30 #[.agg #[.int .i64 e.k, .string e.sp, .string e.lo, .slice e.A e.n e.c, .string e.tx], .agg #[.int .i64 f.k, .string f.sp, .string f.lo, .slice f.A f.n f.c, .string f.tx]] w (BelB false w) := by
  obtain ⟨W, hW, hB0, ⟨c0, c1, c2, c3, c4⟩, d0, d1, d2, d3, d4⟩ := evBox2 w e f 31
  have t0 : (e.k != f.k) = false := by simpa using h0
  have t1 := fun w' => (nameNeq e.sp e.lo f.sp f.lo w').trans (by rw [decide_eq_true h])
  have t2 := toL_no h1
  clear h h0 h1
  go_enter Try.func30, Try.ntmps30
  go_wp2
  go_ret
  exact ⟨rfl, hB0⟩
theorem one_len (e f : Ev) (w : World) (h0 : e.k = f.k) (h : e.sp = f.sp ∧ e.lo = f.lo) (h1 : e.tx = f.tx) (h2 : ¬ e.n = f.n) :
    Calls Try.prog 30 #[.agg #[.int .i64 e.k, .string e.sp, .string e.lo, .slice e.A e.n e.c, .string e.tx], .agg #[.int .i64 f.k, .string f.sp, .string f.lo, .slice f.A f.n f.c, .string f.tx]] w (BelB false w) := by
  obtain ⟨W, hW, hB0, ⟨c0, c1, c2, c3, c4⟩, d0, d1, d2, d3, d4⟩ := evBox2 w e f 31
  have t0 : (e.k != f.k) = false := by simpa using h0
  have t1 := fun w' => (nameNeq e.sp e.lo f.sp f.lo w').trans (by rw [decide_eq_true h])
  have t3 : ((e.n : Int) != f.n) = true := by simp; omega
  rw [← h1] at d4
  clear h h0 h2 h1
  go_enter Try.func30, Try.ntmps30
  go_wp2
  go_ret
  exact ⟨rfl, hB0⟩
set_option maxHeartbeats 2000000 in
theorem one_attrs (e f : Ev) (w : World) (he : EvOk w e) (hf : EvOk w f) (h0 : e.k = f.k) (h : e.sp = f.sp ∧ e.lo = f.lo) (h1 : e.tx = f.tx) (h2 : e.n = f.n) :
    Calls Try.prog 30 #[.agg #[.int .i64 e.k, .string e.sp, .string e.lo, .slice e.A e.n e.c, .string e.tx], .agg #[.int .i64 f.k, .string f.sp, .string f.lo, .slice f.A f.n f.c, .string f.tx]] w (BelB (decide (e.ats = f.ats)) w) := by
  obtain ⟨W, hW, hB0, ⟨c0, c1, c2, c3, c4⟩, d0, d1, d2, d3, d4⟩ := evBox2 w e f 31
  have E := Lib.hid (he.1.below hB0)
  have F := Lib.hid (hf.1.below hB0)
  have B := Lib.hid hB0
  have t0 : (e.k != f.k) = false := by simpa using h0
  have t1 := fun w' => (nameNeq e.sp e.lo f.sp f.lo w').trans (by rw [decide_eq_true h])
  have t3 : ((e.n : Int) != f.n) = false := by simp; omega
  have hn9 : e.n ≤ 9223372036854775807 := Nat.le_trans he.2.1 he.2.2
  rw [← h1] at d4
  rw [← h2] at d3
  have N2 := Lib.hid h2
  clear h h0 h2 h1 he hf hB0 t3
  go_enter Try.func30, Try.ntmps30
  go_wp2
  clear hW
  go_loopw [5] (fun i wr => ∃ (k d : Nat), k ≤ e.n ∧ i = .int .i64 k ∧ Hid (e.ats.take k = f.ats.take k) ∧ wr = W.drewN d) (fun i _ => e.n - (intOf i).toNat)
  case atStart => exact ⟨0, 0, by omega, rfl, rfl, rfl⟩
  case round =>
    obtain ⟨k, d, hk, rfl, HT, rfl⟩ := hrel
    by_cases hlt : k < e.n
    · obtain ⟨a, x, hA, hx, _, g0, g1, g2⟩ := E.out.2 k hlt
      obtain ⟨b, y, hA', hy, _, i0, i1, i2⟩ := F.out.2 k (by rw [← N2.out]; exact hlt)
      have b0 : (0 : Int) ≤ (k : Int) := by omega
      have b1 : (k : Int) < (e.n : Int) := by omega
      have X := Lib.hid hx
      have Y := Lib.hid hy
      clear hx hy
      rw [hA] at c3
      rw [hA'] at d3
      clear hA hA'
      by_cases hxy : x = y
      · have t4 := fun w' => (attrNeq x y w').trans (by rw [decide_eq_true hxy])
        have XY := Lib.hid hxy
        clear hxy
        go_wp2_with fail
        go_quiet (fail)
        go_wp2
        go_roundw
        case rel => exact ⟨k + 1, _, by omega, by go_num, takes_eq HT.out X.out (by rw [XY.out]; exact Y.out), rfl⟩
        case measure => simp [intOf]; omega
      · have t4 := fun w' => (attrNeq x y w').trans (by rw [decide_eq_false hxy])
        have XY := Lib.hid hxy
        clear hxy
        go_wp2_with fail
        go_quiet (fail)
        go_wp2
        go_ret
        have G : decide (e.ats = f.ats) = false := by
          refine decide_eq_false fun h => XY.out ?_
          have h1 := X.out
          rw [h, Y.out] at h1
          exact (Option.some.inj h1).symm
        rw [G]
        exact ⟨rfl, B.out.trans ((below_drewN _ _ _).trans (below_drewN _ _ _))⟩
    · obtain rfl : k = e.n := by omega
      go_wp2
      go_ret
      have h := HT.out
      rw [← E.out.1, List.take_length, E.out.1, N2.out, ← F.out.1, List.take_length] at h
      rw [decide_eq_true h]
      exact ⟨rfl, B.out.trans (below_drewN _ _ _)⟩
theorem one_any (e f : Ev) (w : World) (he : EvOk w e) (hf : EvOk w f) :
    Calls Try.prog 30 #[.agg #[.int .i64 e.k, .string e.sp, .string e.lo, .slice e.A e.n e.c, .string e.tx], .agg #[.int .i64 f.k, .string f.sp, .string f.lo, .slice f.A f.n f.c, .string f.tx]] w (BelB (sameEv e f) w) := by
  by_cases h0 : e.k = f.k
  · by_cases h1 : e.sp = f.sp ∧ e.lo = f.lo
    · by_cases h2 : e.tx = f.tx
      · by_cases h3 : e.n = f.n
        · have G : sameEv e f = decide (e.ats = f.ats) := by unfold sameEv; simp [h0, h1.1, h1.2, h2]
          rw [G]; exact one_attrs e f w he hf h0 h1 h2 h3
        · have G : sameEv e f = false := by
            unfold sameEv; refine decide_eq_false fun h => h3 ?_
            rw [← he.1.1, ← hf.1.1, h.2.2.2]
          rw [G]; exact one_len e f w h0 h1 h2 h3
      · have G : sameEv e f = false := by unfold sameEv; exact decide_eq_false fun h => h2 h.2.2.1
        rw [G]; exact one_text e f w h0 h1 h2
    · have G : sameEv e f = false := by unfold sameEv; exact decide_eq_false fun h => h1 h.2.1
      rw [G]; exact one_name e f w h0 h1
  · have G : sameEv e f = false := by unfold sameEv; exact decide_eq_false fun h => h0 h.1
    rw [G]; exact one_k e f w h0
/-- Are two rows of events the same? -/
def sameEvs : List Ev → List Ev → Bool
  | [], [] => true
  | e :: l, f :: m => sameEv e f && sameEvs l m
  | _, _ => false
theorem sameEvs_iff (l m : List Ev) : sameEvs l m = true ↔ l.length = m.length ∧ ∀ (i : Nat) (e f : Ev), l[i]? = some e → m[i]? = some f → sameEv e f = true := by
  induction l generalizing m with
  | nil => cases m <;> simp [sameEvs]
  | cons e l ih =>
    cases m with
    | nil => simp [sameEvs]
    | cons f m =>
      simp only [sameEvs, Bool.and_eq_true, ih m, List.length_cons]
      constructor
      · rintro ⟨h0, h1, h2⟩
        refine ⟨by omega, fun i x y hx hy => ?_⟩
        cases i with
        | zero => simp at hx hy; subst hx hy; exact h0
        | succ i => exact h2 i x y (by simpa using hx) (by simpa using hy)
      · rintro ⟨h1, h2⟩
        exact ⟨h2 0 e f rfl rfl, by omega, fun i x y hx hy => h2 (i + 1) x y (by simpa using hx) (by simpa using hy)⟩
theorem sameEvs_no {l m : List Ev} {i : Nat} {e f : Ev} (hx : l[i]? = some e) (hy : m[i]? = some f) (h : sameEv e f = false) : sameEvs l m = false := by
  cases hs : sameEvs l m with
  | false => rfl
  | true => rw [((sameEvs_iff l m).1 hs).2 i e f hx hy] at h; cases h
theorem sameEvs_len {l m : List Ev} (h : ¬ l.length = m.length) : sameEvs l m = false := by
  cases hs : sameEvs l m with
  | false => rfl
  | true => exact absurd ((sameEvs_iff l m).1 hs).1 h
set_option maxHeartbeats 4000000 in
theorem same_any (A : Option Addr) (n c : Nat) (l : List Ev) (A' : Option Addr) (n' c' : Nat) (m : List Ev) (w : World) (hl : EvsAt w A n l) (hm : EvsAt w A' n' m) (hn : n ≤ 9223372036854775807) :
    Calls Try.prog 14 #[.slice A n c, .slice A' n' c'] w (BelB (sameEvs l m) w) := by
  have L := Lib.hid hl
  have M := Lib.hid hm
  clear hl hm
  by_cases hne : n = n'
  · subst hne
    go_enter Try.func14, Try.ntmps14
    go_wp2
    go_loopw [5] (fun i wr => ∃ (k : Nat), k ≤ n ∧ i = .int .i64 k ∧ Hid (∀ (i : Nat) (e f : Ev), i < k → l[i]? = some e → m[i]? = some f → sameEv e f = true) ∧ Hid (Below w.heap.size w wr)) (fun i _ => n - (intOf i).toNat)
    case atStart => exact ⟨0, by omega, rfl, (fun i e f hi => by omega), Below.refl _ _⟩
    case round =>
      obtain ⟨k, hk, rfl, HS, HB⟩ := hrel
      by_cases hlt : k < n
      · have b0 : (0 : Int) ≤ (k : Int) := by omega
        have b1 : (k : Int) < (n : Int) := by omega
        obtain ⟨a, e, rfl, hx, he, hok⟩ := L.out.2 k hlt
        obtain ⟨b, f, rfl, hy, hf, hok2⟩ := M.out.2 k hlt
        have E := Lib.hid he
        have F := Lib.hid hf
        have OK := Lib.hid hok
        have OK2 := Lib.hid hok2
        have X := Lib.hid hx
        have Y := Lib.hid hy
        have B0 := E.out.1
        have B1 := F.out.1
        clear hx hy he hf hok hok2
        obtain ⟨_, g0, g1, g2, g3, g4⟩ := E.out.below (HB.out.trans (below_drew _ wr)) B0
        obtain ⟨_, p0, p1, p2, p3, p4⟩ := F.out.below (HB.out.trans (below_drew _ wr)) B1
        cases hr : sameEv e f with
        | true =>
          have R := Lib.hid hr
          clear hr
          go_wp2_with fail
          go_region_held3 (fun w' => w'.cell? (a.add (k * 5)) = some (.int .i64 e.k) ∧ w'.cell? ⟨(a.add (k * 5)).block, (a.add (k * 5)).off + 1, none⟩ = some (.string e.sp) ∧ w'.cell? ⟨(a.add (k * 5)).block, (a.add (k * 5)).off + 2, none⟩ = some (.string e.lo) ∧ w'.cell? ⟨(a.add (k * 5)).block, (a.add (k * 5)).off + 3, none⟩ = some (.slice e.A e.n e.c) ∧ w'.cell? ⟨(a.add (k * 5)).block, (a.add (k * 5)).off + 4, none⟩ = some (.string e.tx) ∧ w'.cell? (b.add (k * 5)) = some (.int .i64 f.k) ∧ w'.cell? ⟨(b.add (k * 5)).block, (b.add (k * 5)).off + 1, none⟩ = some (.string f.sp) ∧ w'.cell? ⟨(b.add (k * 5)).block, (b.add (k * 5)).off + 2, none⟩ = some (.string f.lo) ∧ w'.cell? ⟨(b.add (k * 5)).block, (b.add (k * 5)).off + 3, none⟩ = some (.slice f.A f.n f.c) ∧ w'.cell? ⟨(b.add (k * 5)).block, (b.add (k * 5)).off + 4, none⟩ = some (.string f.tx))
          (first | exact ⟨g0, g1, g2, g3, g4, p0, p1, p2, p3, p4⟩ | exact ⟨i0, i1, i2, i3, i4, q0, q1, q2, q3, q4⟩)
          (first | (go_at_call 30; refine (one_any e f _ (OK.out.below (HB.out.trans (below_drew _ wr))) (OK2.out.below (HB.out.trans (below_drew _ wr)))).mono ?_; rintro x w2 ⟨rfl, hB1⟩; rw [R.out]; have hB2 := HB.out.trans ((below_drew _ wr).trans (hB1.mono HB.out.size)); obtain ⟨_, i0, i1, i2, i3, i4⟩ := E.out.below hB2 B0; obtain ⟨_, q0, q1, q2, q3, q4⟩ := F.out.below hB2 B1))
          go_wp2
          go_roundw
          case rel =>
            refine ⟨k + 1, by omega, by go_num, ?_, hB2⟩
            intro i e' f' hi hx hy
            by_cases hik : i = k
            · subst hik; rw [X.out] at hx; rw [Y.out] at hy; cases hx; cases hy; exact R.out
            · exact HS.out i e' f' (by omega) hx hy
          case measure => simp [intOf]; omega
        | false =>
          have R := Lib.hid hr
          clear hr
          go_wp2_with fail
          go_region_held3 (fun w' => w'.cell? (a.add (k * 5)) = some (.int .i64 e.k) ∧ w'.cell? ⟨(a.add (k * 5)).block, (a.add (k * 5)).off + 1, none⟩ = some (.string e.sp) ∧ w'.cell? ⟨(a.add (k * 5)).block, (a.add (k * 5)).off + 2, none⟩ = some (.string e.lo) ∧ w'.cell? ⟨(a.add (k * 5)).block, (a.add (k * 5)).off + 3, none⟩ = some (.slice e.A e.n e.c) ∧ w'.cell? ⟨(a.add (k * 5)).block, (a.add (k * 5)).off + 4, none⟩ = some (.string e.tx) ∧ w'.cell? (b.add (k * 5)) = some (.int .i64 f.k) ∧ w'.cell? ⟨(b.add (k * 5)).block, (b.add (k * 5)).off + 1, none⟩ = some (.string f.sp) ∧ w'.cell? ⟨(b.add (k * 5)).block, (b.add (k * 5)).off + 2, none⟩ = some (.string f.lo) ∧ w'.cell? ⟨(b.add (k * 5)).block, (b.add (k * 5)).off + 3, none⟩ = some (.slice f.A f.n f.c) ∧ w'.cell? ⟨(b.add (k * 5)).block, (b.add (k * 5)).off + 4, none⟩ = some (.string f.tx))
          (first | exact ⟨g0, g1, g2, g3, g4, p0, p1, p2, p3, p4⟩ | exact ⟨i0, i1, i2, i3, i4, q0, q1, q2, q3, q4⟩)
          (first | (go_at_call 30; refine (one_any e f _ (OK.out.below (HB.out.trans (below_drew _ wr))) (OK2.out.below (HB.out.trans (below_drew _ wr)))).mono ?_; rintro x w2 ⟨rfl, hB1⟩; rw [R.out]; have hB2 := HB.out.trans ((below_drew _ wr).trans (hB1.mono HB.out.size)); obtain ⟨_, i0, i1, i2, i3, i4⟩ := E.out.below hB2 B0; obtain ⟨_, q0, q1, q2, q3, q4⟩ := F.out.below hB2 B1))
          go_wp2
          go_ret
          rw [sameEvs_no X.out Y.out R.out]
          exact ⟨rfl, hB2⟩
      · obtain rfl : k = n := by omega
        go_wp2
        go_ret
        have G : sameEvs l m = true := (sameEvs_iff l m).2 ⟨by rw [L.out.1, M.out.1], fun i e f hx hy => HS.out i e f (by have := (List.getElem?_eq_some_iff.1 hx).1; have := L.out.1; omega) hx hy⟩
        rw [G]
        exact ⟨rfl, HB.out⟩
  · have t0 : ((n : Int) != n') = true := by simp; omega
    have G : sameEvs l m = false := sameEvs_len (by rw [L.out.1, M.out.1]; exact hne)
    rw [G]
    go_enter Try.func14, Try.ntmps14
    go_wp2
    go_ret
    exact ⟨rfl, Below.refl _ _⟩
end Go.Proofs.Ytdhgkbghlkhfeaa
