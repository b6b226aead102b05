/- The contracts of diff.First and of narthexref42.First: the first place at which two rows of events are not the same. Conditions: none. -/
import Derived.Test.YtdhgkbghlkhfeaaDiffParts
namespace Go.Proofs.Ytdhgkbghlkhfeaa
open Go.RowKit
/-- The first place that is not the same; are there none? -/
def firstOf : List Ev → List Ev → Nat × Bool
  | [], [] => (0, true)
  | e :: l, f :: m => if sameEv e f then ((firstOf l m).1 + 1, (firstOf l m).2) else (0, false)
  | _, _ => (0, false)
theorem firstOf_at (l m : List Ev) (k : Nat) (h : ∀ (i : Nat) (e f : Ev), i < k → l[i]? = some e → m[i]? = some f → sameEv e f = true) (hl : k ≤ l.length) (hm : k ≤ m.length) :
    firstOf l m = ((firstOf (l.drop k) (m.drop k)).1 + k, (firstOf (l.drop k) (m.drop k)).2) := by
  induction k generalizing l m with
  | zero => simp
  | succ k ih =>
    match l, m, hl, hm with
    | e :: l, f :: m, hl, hm =>
      have h0 := h 0 e f (by omega) rfl rfl
      have h1 := ih l m (fun i x y hi hx hy => h (i + 1) x y (by omega) (by simpa using hx) (by simpa using hy)) (by simpa using hl) (by simpa using hm)
      simp only [firstOf, h0, if_true, List.drop_succ_cons]
      rw [h1]
      simp only [Prod.mk.injEq, and_true]
      omega
theorem firstOf_no {l m : List Ev} {k : Nat} {e f : Ev} (h : ∀ (i : Nat) (e f : Ev), i < k → l[i]? = some e → m[i]? = some f → sameEv e f = true) (hx : l[k]? = some e) (hy : m[k]? = some f) (hs : sameEv e f = false) :
    firstOf l m = (k, false) := by
  have h1 := (List.getElem?_eq_some_iff.1 hx).1
  have h2 := (List.getElem?_eq_some_iff.1 hy).1
  rw [firstOf_at l m k h (by omega) (by omega), List.drop_eq_getElem_cons h1, List.drop_eq_getElem_cons h2]
  have e1 : l[k] = e := (List.getElem?_eq_some_iff.1 hx).2
  have e2 : m[k] = f := (List.getElem?_eq_some_iff.1 hy).2
  rw [e1, e2]
  simp [firstOf, hs]
theorem firstOf_end {l m : List Ev} {k : Nat} (h : ∀ (i : Nat) (e f : Ev), i < k → l[i]? = some e → m[i]? = some f → sameEv e f = true) (hl : k ≤ l.length) (hm : k ≤ m.length) (hk : k = l.length ∨ k = m.length) :
    firstOf l m = (k, decide (l.length = m.length)) := by
  rw [firstOf_at l m k h hl hm]
  by_cases h1 : k = l.length
  · by_cases h2 : k = m.length
    · have e1 : l.drop k = [] := List.drop_eq_nil_of_le (by omega)
      have e2 : m.drop k = [] := List.drop_eq_nil_of_le (by omega)
      rw [e1, e2]; simp [firstOf]; omega
    · have e1 : l.drop k = [] := List.drop_eq_nil_of_le (by omega)
      rw [e1, List.drop_eq_getElem_cons (show k < m.length by omega)]; simp [firstOf]; omega
  · have h2 : k = m.length := by omega
    have e2 : m.drop k = [] := List.drop_eq_nil_of_le (by omega)
    rw [e2, List.drop_eq_getElem_cons (show k < l.length by omega)]; simp [firstOf]; omega
theorem firstOf_same (l m : List Ev) : (firstOf l m).2 = sameEvs l m := by
  induction l generalizing m with
  | nil => cases m <;> rfl
  | cons e l ih =>
    cases m with
    | nil => rfl
    | cons f m => cases hs : sameEv e f <;> simp [firstOf, sameEvs, hs, ih m]
theorem sameEv_refl (e : Ev) : sameEv e e = true := by unfold sameEv; simp
theorem firstOf_refl (l : List Ev) : firstOf l l = (l.length, true) := by
  rw [firstOf_end (k := l.length) (fun i e f _ hx hy => by rw [hx] at hy; cases hy; exact sameEv_refl _) (by omega) (by omega) (by omega)]
  simp
theorem firstOf_le (l m : List Ev) : (firstOf l m).1 ≤ l.length := by
  induction l generalizing m with
  | nil => cases m <;> simp [firstOf]
  | cons e l ih =>
    cases m with
    | nil => simp [firstOf]
    | cons f m => have := ih m; cases hs : sameEv e f <;> simp [firstOf, hs]; omega
theorem same_step {l m : List Ev} {k : Nat} {e f : Ev} (h : ∀ (i : Nat) (e f : Ev), i < k → l[i]? = some e → m[i]? = some f → sameEv e f = true) (hx : l[k]? = some e) (hy : m[k]? = some f) (hs : sameEv e f = true) :
    ∀ (i : Nat) (e f : Ev), i < k + 1 → l[i]? = some e → m[i]? = some f → sameEv e f = true := by
  intro i e' f' hi hx' hy'
  by_cases hik : i = k
  · subst hik; rw [hx] at hx'; rw [hy] at hy'; cases hx'; cases hy'; exact hs
  · exact h i e' f' (by omega) hx' hy'
theorem parts_eq_zero (e f : Ev) : (partsOf e f == 0) = sameEv e f := by
  cases hs : sameEv e f with
  | true => rw [(partsOf_zero e f).2 hs]; rfl
  | false =>
    rw [beq_eq_false_iff_ne]
    intro h
    rw [(partsOf_zero e f).1 h] at hs
    cases hs
theorem parts_ne_zero (e f : Ev) : (partsOf e f != 0) = !sameEv e f := by rw [bne, parts_eq_zero]
def TellFirst (p : Nat × Bool) (w : World) (e : Ending) (w' : World) : Prop := e = .returned (.tuple #[.int .i64 p.1, .bool p.2]) ∧ Below w.heap.size w w'
theorem firstClosure_any (e f : Ev) (w : World) (he : EvOk w e) (hf : EvOk w f) :
    Calls Try.prog 29 #[.agg #[.int .i64 e.k, .string e.sp, .string e.lo, .slice e.A e.n e.c, .string e.tx], .agg #[.int .i64 f.k, .string f.sp, .string f.lo, .slice f.A f.n f.c, .string f.tx]] w (BelB (sameEv e f) w) := by
  obtain ⟨W, hW, hB0, ⟨c0, c1, c2, c3, c4⟩, d0, d1, d2, d3, d4⟩ := evBox2 w e f 31
  have OK := Lib.hid (he.below hB0)
  have OK2 := Lib.hid (hf.below hB0)
  have P := Lib.hid (parts_eq_zero e f)
  clear he hf
  go_enter Try.func29, Try.ntmps29
  go_wp2_with fail
  refine (parts_any e f _ OK.out OK2.out).mono ?_
  rintro x w2 ⟨rfl, hB1⟩
  have p := P.out
  go_wp2
  go_ret
  rw [← P.out]
  exact ⟨rfl, hB0.trans (hB1.mono hB0.size)⟩
set_option maxHeartbeats 4000000 in
theorem ffirst_any (A : Option Addr) (n c : Nat) (l : List Ev) (A' : Option Addr) (n' c' : Nat) (m : List Ev) (w : World) (hl : EvsAt w A n l) (hm : EvsAt w A' n' m) (hn : n ≤ 9223372036854775807) (hn' : n' ≤ 9223372036854775807) :
    Calls Try.prog 28 #[.slice A n c, .slice A' n' c', .func (.func 29) #[] #[]] w (TellFirst (firstOf l m) w) := by
  have L := Lib.hid hl
  have M := Lib.hid hm
  have LN := Lib.hid hl.1
  have MN := Lib.hid hm.1
  clear hl hm
  have q0 : ((n : Int) == (n' : Int)) = decide (l.length = m.length) := by
    rw [LN.out, MN.out]
    by_cases h : n = n'
    · simp [h]
    · rw [decide_eq_false h]; simp; omega
  by_cases hc : n' < n
  all_goals
    go_enter Try.func28, Try.ntmps28
    go_wp2
    go_loopw [16] (fun i wr => ∃ (k : Nat), k ≤ n ∧ k ≤ n' ∧ i = .int .i64 k ∧ Hid (∀ (i : Nat) (e f : Ev), i < k → l[i]? = some e → m[i]? = some f → sameEv e f = true) ∧ Hid (Below w.heap.size w wr)) (fun i _ => n - (intOf i).toNat)
    case atStart => exact ⟨0, by omega, by omega, rfl, (fun i e f hi => by omega), Below.refl _ _⟩
    case round =>
      obtain ⟨k, hk, hk', rfl, HS, HB⟩ := hrel
      by_cases hlt : k < n
      · by_cases hlt2 : k < n'
        · have b0 : (0 : Int) ≤ (k : Int) := by omega
          obtain ⟨a, e, rfl, hx, he, hok⟩ := L.out.2 k hlt
          obtain ⟨b, f, rfl, hy, hf, hok2⟩ := M.out.2 k hlt2
          have b1 : (k : Int) < (n : Int) := by omega
          have b2 : (k : Int) < (n' : Int) := by omega
          have E := Lib.hid he
          have F := Lib.hid hf
          have OK := Lib.hid hok
          have OK2 := Lib.hid hok2
          have X := Lib.hid hx
          have Y := Lib.hid hy
          have B0 := E.out.1
          have B1 := F.out.1
          clear hx hy he hf hok hok2
          obtain ⟨_, g0, g1, g2, g3, g4⟩ := E.out.below (HB.out.trans (below_drew _ wr)) B0
          obtain ⟨_, p0, p1, p2, p3, p4⟩ := F.out.below (HB.out.trans (below_drew _ wr)) B1
          cases hr : sameEv e f with
          | true =>
            have R := Lib.hid hr
            clear hr
            go_wp2_with fail
            go_region_held3 (fun w' => w'.cell? (a.add (k * 5)) = some (.int .i64 e.k) ∧ w'.cell? ⟨(a.add (k * 5)).block, (a.add (k * 5)).off + 1, none⟩ = some (.string e.sp) ∧ w'.cell? ⟨(a.add (k * 5)).block, (a.add (k * 5)).off + 2, none⟩ = some (.string e.lo) ∧ w'.cell? ⟨(a.add (k * 5)).block, (a.add (k * 5)).off + 3, none⟩ = some (.slice e.A e.n e.c) ∧ w'.cell? ⟨(a.add (k * 5)).block, (a.add (k * 5)).off + 4, none⟩ = some (.string e.tx) ∧ w'.cell? (b.add (k * 5)) = some (.int .i64 f.k) ∧ w'.cell? ⟨(b.add (k * 5)).block, (b.add (k * 5)).off + 1, none⟩ = some (.string f.sp) ∧ w'.cell? ⟨(b.add (k * 5)).block, (b.add (k * 5)).off + 2, none⟩ = some (.string f.lo) ∧ w'.cell? ⟨(b.add (k * 5)).block, (b.add (k * 5)).off + 3, none⟩ = some (.slice f.A f.n f.c) ∧ w'.cell? ⟨(b.add (k * 5)).block, (b.add (k * 5)).off + 4, none⟩ = some (.string f.tx))
              (first | exact ⟨g0, g1, g2, g3, g4, p0, p1, p2, p3, p4⟩ | exact ⟨i0, i1, i2, i3, i4, q0, q1, q2, q3, q4⟩)
              (first | (go_at_call 29; refine (firstClosure_any e f _ (OK.out.below (HB.out.trans (below_drew _ wr))) (OK2.out.below (HB.out.trans (below_drew _ wr)))).mono ?_; rintro x w2 ⟨rfl, hB1⟩; rw [R.out]; have hB2 := HB.out.trans ((below_drew _ wr).trans (hB1.mono HB.out.size)); obtain ⟨_, i0, i1, i2, i3, i4⟩ := E.out.below hB2 B0; obtain ⟨_, q0, q1, q2, q3, q4⟩ := F.out.below hB2 B1))
            go_wp2
            go_roundw
            case rel => exact ⟨k + 1, by omega, by omega, by go_num, same_step HS.out X.out Y.out R.out, hB2⟩
            case measure => simp [intOf]; omega
          | false =>
            have R := Lib.hid hr
            clear hr
            go_wp2_with fail
            go_region_held3 (fun w' => w'.cell? (a.add (k * 5)) = some (.int .i64 e.k) ∧ w'.cell? ⟨(a.add (k * 5)).block, (a.add (k * 5)).off + 1, none⟩ = some (.string e.sp) ∧ w'.cell? ⟨(a.add (k * 5)).block, (a.add (k * 5)).off + 2, none⟩ = some (.string e.lo) ∧ w'.cell? ⟨(a.add (k * 5)).block, (a.add (k * 5)).off + 3, none⟩ = some (.slice e.A e.n e.c) ∧ w'.cell? ⟨(a.add (k * 5)).block, (a.add (k * 5)).off + 4, none⟩ = some (.string e.tx) ∧ w'.cell? (b.add (k * 5)) = some (.int .i64 f.k) ∧ w'.cell? ⟨(b.add (k * 5)).block, (b.add (k * 5)).off + 1, none⟩ = some (.string f.sp) ∧ w'.cell? ⟨(b.add (k * 5)).block, (b.add (k * 5)).off + 2, none⟩ = some (.string f.lo) ∧ w'.cell? ⟨(b.add (k * 5)).block, (b.add (k * 5)).off + 3, none⟩ = some (.slice f.A f.n f.c) ∧ w'.cell? ⟨(b.add (k * 5)).block, (b.add (k * 5)).off + 4, none⟩ = some (.string f.tx))
              (first | exact ⟨g0, g1, g2, g3, g4, p0, p1, p2, p3, p4⟩ | exact ⟨i0, i1, i2, i3, i4, q0, q1, q2, q3, q4⟩)
              (first | (go_at_call 29; refine (firstClosure_any e f _ (OK.out.below (HB.out.trans (below_drew _ wr))) (OK2.out.below (HB.out.trans (below_drew _ wr)))).mono ?_; rintro x w2 ⟨rfl, hB1⟩; rw [R.out]; have hB2 := HB.out.trans ((below_drew _ wr).trans (hB1.mono HB.out.size)); obtain ⟨_, i0, i1, i2, i3, i4⟩ := E.out.below hB2 B0; obtain ⟨_, q0, q1, q2, q3, q4⟩ := F.out.below hB2 B1))
            go_wp2
            go_ret2
            rw [firstOf_no HS.out X.out Y.out R.out]
            exact ⟨rfl, hB2⟩
        · first
          | (exfalso; omega)
          | (obtain rfl : k = n' := by omega
             go_wp2
             go_ret2
             rw [firstOf_end HS.out (by rw [LN.out]; omega) (by rw [MN.out]; omega) (by rw [LN.out, MN.out]; omega)]
             exact ⟨rfl, HB.out⟩)
      · first
        | (exfalso; omega)
        | (obtain rfl : k = n := by omega
           go_wp2
           go_ret2
           rw [firstOf_end HS.out (by rw [LN.out]; omega) (by rw [MN.out]; omega) (by rw [LN.out, MN.out]; omega)]
           exact ⟨rfl, HB.out⟩)
theorem first_any (A : Option Addr) (n c : Nat) (l : List Ev) (A' : Option Addr) (n' c' : Nat) (m : List Ev) (w : World) (hl : EvsAt w A n l) (hm : EvsAt w A' n' m) (hn : n ≤ 9223372036854775807) (hn' : n' ≤ 9223372036854775807) :
    Calls Try.prog 12 #[.slice A n c, .slice A' n' c'] w (TellFirst (firstOf l m) w) := by
  have C := Lib.hid (ffirst_any A n c l A' n' c' m w hl hm hn hn')
  clear hl hm
  go_enter Try.func12, Try.ntmps12
  go_wp2_with fail
  refine C.out.mono ?_
  rintro x w2 ⟨rfl, hB⟩
  go_wp2
  go_ret2
  exact ⟨rfl, hB⟩
end Go.Proofs.Ytdhgkbghlkhfeaa
