/- slices.Clone of attributes: a row of the call's own. Conditions: at most 2^40 attributes. -/
import Derived.Test.YtijofagmddhmgaaJoinRAll
import Derived.Test.YtijofagmddhmgaaJoinBuild
namespace Go.Proofs.Ytijofagmddhmgaa
open Go.RowKit
def atCells (l : List At) : List Value := l.flatMap fun x => [.string x.sp, .string x.lo, .string x.va]
theorem atCells_len (l : List At) : (atCells l).length = l.length * 3 := by
  induction l with
  | nil => rfl
  | cons e l ih => simp only [atCells, List.flatMap_cons, List.length_append, List.length_cons, List.length_nil] at ih ⊢; omega
theorem atCells_one (l : List At) : ∀ u ∈ atCells l, u.oneCell' = true := by
  intro u hu
  unfold atCells at hu
  obtain ⟨x, _, hx⟩ := List.mem_flatMap.1 hu
  simp only [List.mem_cons, List.not_mem_nil, or_false] at hx
  rcases hx with rfl | rfl | rfl <;> rfl
theorem atCells_at (l : List At) (i : Nat) (x : At) (hx : l[i]? = some x) : (atCells l)[i * 3]? = some (.string x.sp) ∧ (atCells l)[i * 3 + 1]? = some (.string x.lo) ∧ (atCells l)[i * 3 + 2]? = some (.string x.va) := by
  induction l generalizing i with
  | nil => simp at hx
  | cons f l ih =>
    cases i with
    | zero => simp at hx; subst hx; simp [atCells]
    | succ i =>
      have h := ih i (by simpa using hx)
      have e1 : (i + 1) * 3 = i * 3 + 1 + 1 + 1 := by omega
      simp only [atCells, List.flatMap_cons, List.cons_append, List.nil_append, e1] at h ⊢
      have r : ∀ j, i * 3 + 1 + 1 + 1 + j = (i * 3 + j) + 1 + 1 + 1 := fun j => by omega
      refine ⟨by simpa using h.1, ?_, ?_⟩
      · rw [r 1]; simpa using h.2.1
      · rw [r 2]; simpa using h.2.2
theorem addAt (a : Addr) (i j : Nat) (hj : 0 < j) : (⟨(a.add i).block, (a.add i).off + j, none⟩ : Addr) = a.add (i + j) := by
  unfold Addr.add
  by_cases hi : i = 0
  · subst hi; simp; omega
  · simp [hi]; omega
/-- The cells of a row of attributes. -/
theorem AtsAt.cells {w : World} {a : Addr} {n : Nat} {l : List At} (h : AtsAt w (some a) n l) : ∀ j u, (atCells l)[j]? = some u → w.cell? (a.add j) = some u := by
  intro j u hj
  have hlt : j < l.length * 3 := by rw [← atCells_len]; exact (List.getElem?_eq_some_iff.1 hj).1
  obtain ⟨i, r, rfl, hr⟩ : ∃ i r, j = i * 3 + r ∧ r < 3 := ⟨j / 3, j % 3, by omega, by omega⟩
  obtain ⟨a', x, hA, hx, _, g0, g1, g2⟩ := h.2 i (by rw [← h.1]; omega)
  cases hA
  obtain ⟨h0, h1, h2⟩ := atCells_at l i x hx
  match r, hr with
  | 0, _ => rw [Nat.add_zero] at hj ⊢; rw [h0] at hj; cases hj; exact g0
  | 1, _ => rw [h1] at hj; cases hj; rw [← addAt a (i * 3) 1 (by omega)]; exact g1
  | 2, _ => rw [h2] at hj; cases hj; rw [← addAt a (i * 3) 2 (by omega)]; exact g2
theorem AtsAt.of_own {w : World} {base c : Nat} {T : TypeId} {A : Option Addr} {l : List At} (h : w.ownsRow base T 3 (.slice A l.length c) l.length (atCells l)) : AtsAt w A l.length l := by
  refine ⟨rfl, fun i hi => ?_⟩
  rcases h.2 with ⟨_, h2⟩ | ⟨g, cap, cur, hv, hg, hh, _⟩
  · omega
  · cases hv
    obtain ⟨h0, h1, h2⟩ := atCells_at l i l[i] (List.getElem?_eq_getElem hi)
    have ha : (⟨g, 0, none⟩ : Addr).add (i * 3) = ⟨g, i * 3, none⟩ := by unfold Addr.add; split <;> simp_all
    have hc : ∀ j u, (atCells l)[j]? = some u → w.cell? ⟨g, j, none⟩ = some u := fun j u hj => by
      have := h.cells rfl j u hj
      have ha2 : (⟨g, 0, none⟩ : Addr).add j = ⟨g, j, none⟩ := by unfold Addr.add; split <;> simp_all
      rwa [ha2] at this
    refine ⟨⟨g, 0, none⟩, l[i], rfl, List.getElem?_eq_getElem hi, ?_⟩
    rw [ha]
    exact ⟨(h.lt g rfl).2, hc _ _ h0, hc _ _ h1, hc _ _ h2⟩
theorem Try.infoAttr : (Try.prog.info? 62).map (fun i => (i.zero, i.size, i.bytes)) = some (some (.agg #[.string ⟨#[]⟩, .string ⟨#[]⟩, .string ⟨#[]⟩]), 3, 48) := by kernel_rfl
/-- A clone: a row of the call's own of those attributes. -/
def TellClone (l : List At) (w : World) (e : Ending) (w' : World) : Prop := ∃ A c, e = .returned (.slice A l.length c) ∧ w'.ownsRow w.heap.size 62 3 (.slice A l.length c) l.length (atCells l) ∧ Below w.heap.size w w'
theorem eqSliceNil (a : Addr) (n c : Nat) (W : World) : (binOp .eql 29 (.slice (some a) n c) (.slice none 0 0)).run Try.prog W = .ok (.bool false) W := by kernel_rfl
theorem eqSliceNone (n c : Nat) (W : World) : (binOp .eql 29 (.slice none n c) (.slice none 0 0)).run Try.prog W = .ok (.bool true) W := by kernel_rfl
set_option maxRecDepth 100000 in
set_option maxHeartbeats 2000000 in
theorem clone_any (A : Option Addr) (n c : Nat) (l : List At) (w : World) (hl : AtsAt w A n l) (hn : n ≤ 1048576) (hc : n ≤ c) :
    Calls Try.prog 39 #[.slice A n c] w (TellClone l w) := by
  obtain ⟨i0, hi0, hz0, hz1, hz2⟩ := info_parts Try.infoAttr
  cases A with
  | none =>
    obtain rfl : n = 0 := by
      rcases Nat.eq_zero_or_pos n with h | h
      · exact h
      · obtain ⟨a, x, hA, _⟩ := hl.2 0 h; cases hA
    obtain rfl : l = [] := List.eq_nil_of_length_eq_zero hl.1
    clear hl
    have q0 := eqSliceNone 0 c
    go_enter Try.func39, Try.ntmps39
    go_wp2
    go_ret
    exact ⟨none, 0, rfl, World.ownsRow_nil _ _ _ _, Below.refl _ _⟩
  | some a =>
    have HC := hl.cells
    have hlen := hl.1
    have hB : Below w.heap.size w (w.alloc (.cells #[] 62)) := (Below.refl _ w).alloc (Nat.le_refl _) _
    have HC2 := Lib.hid (fun j u hj => by
      have hlt : j < l.length * 3 := by rw [← atCells_len]; exact (List.getElem?_eq_some_iff.1 hj).1
      obtain ⟨a', x, hA, _, hb, _⟩ := hl.2 0 (by omega)
      cases hA
      rw [addBlock] at hb
      exact (hB.cell (p := a.add j) (by rw [addBlock]; exact hb)).trans (HC j u hj) : ∀ j u, (atCells l)[j]? = some u → (w.alloc (.cells #[] 62)).cell? (a.add j) = some u)
    have hO : (w.alloc (.cells #[] 62)).ownsRow w.heap.size 62 3 (.slice (some ⟨w.heap.size, 0, none⟩) 0 0) 0 [] := World.ownsRow_lit w #[] 0 (Nat.le_refl _) (by unfold maxLen; omega) rfl
    have hal := atCells_len l
    clear hl HC
    have q0 := eqSliceNil a n c
    go_enter Try.func39, Try.ntmps39
    go_wp2_with (at_builtin; refine wpList_append_own _ rfl (.tmp 5) (.tmp 6) 29 rfl w.heap.size 62 i0 (.agg #[.string ⟨#[]⟩, .string ⟨#[]⟩, .string ⟨#[]⟩]) 3 48 Try.underlying29 hi0 hz0 hz1 hz2 rfl (by decide) _ 0 [] rfl hO a n c (atCells l) rfl (by rw [hal, hlen]) HC2.out (atCells_one l) (by unfold maxLen; omega) (by omega) (by simp) ?_)
    intro v' w2 hown' hgrow _
    have HB2 := hB.grown hgrow (by simp) (fun g hg => (hO.lt g hg).1)
    obtain ⟨A2, c2, rfl⟩ := ownRow_shapeJ hown'
    go_wp2
    go_ret
    subst hlen
    exact ⟨A2, c2, rfl, hown', HB2⟩
end Go.Proofs.Ytijofagmddhmgaa
