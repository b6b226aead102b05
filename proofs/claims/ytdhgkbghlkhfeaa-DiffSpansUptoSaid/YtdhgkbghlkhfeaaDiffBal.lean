/- Events whose begins and ends are balanced: where an element ends, and what is open. No walk in sight. -/
import Derived.Test.YtdhgkbghlkhfeaaDiffSpan
import Derived.Test.YtdhgkbghlkhfeaaDiffPath
namespace Go.Proofs.Ytdhgkbghlkhfeaa
def nameP (e : Ev) : ByteArray × ByteArray := (e.sp, e.lo)
def stepO (st : Option (List (ByteArray × ByteArray))) (e : Ev) : Option (List (ByteArray × ByteArray)) := match st with
  | none => none
  | some s => if e.k = 1 then some (s ++ [nameP e]) else if e.k = 2 then (if s.getLast? = some (nameP e) then some s.dropLast else none) else some s
def stackO (l : List Ev) : Option (List (ByteArray × ByteArray)) := l.foldl stepO (some [])
theorem stackO_succ (l : List Ev) (k : Nat) (e : Ev) (h : l[k]? = some e) : stackO (l.take (k + 1)) = stepO (stackO (l.take k)) e := by
  unfold stackO; rw [List.take_add_one, h]; simp [List.foldl_append]
theorem stackO_none (l : List Ev) : l.foldl stepO none = none := by
  induction l with
  | nil => rfl
  | cons e l ih => exact ih
/-- The stack at each place. -/
def stk (l : List Ev) (k : Nat) : List (ByteArray × ByteArray) := (stackO (l.take k)).getD []
theorem stk_some {l : List Ev} (h : stackO l = some []) (k : Nat) : stackO (l.take k) = some (stk l k) := by
  unfold stk
  cases hs : stackO (l.take k) with
  | some s => rfl
  | none =>
    exfalso
    have : stackO l = (l.drop k).foldl stepO (stackO (l.take k)) := by
      unfold stackO; rw [← List.foldl_append, List.take_append_drop]
    rw [this, hs, stackO_none] at h
    cases h
theorem stk_zero (l : List Ev) : stk l 0 = [] := rfl
theorem stk_end {l : List Ev} (h : stackO l = some []) : stk l l.length = [] := by
  unfold stk; rw [List.take_length, h]; rfl
theorem stk_step {l : List Ev} (h : stackO l = some []) {k : Nat} {e : Ev} (hk : l[k]? = some e) :
    (e.k = 1 ∧ stk l (k + 1) = stk l k ++ [nameP e]) ∨ (e.k = 2 ∧ stk l k = stk l (k + 1) ++ [nameP e]) ∨ (¬ e.k = 1 ∧ ¬ e.k = 2 ∧ stk l (k + 1) = stk l k) := by
  have h1 := stackO_succ l k e hk
  rw [stk_some h (k + 1), stk_some h k] at h1
  unfold stepO at h1
  dsimp only at h1
  by_cases e1 : e.k = 1
  · rw [if_pos e1] at h1
    exact .inl ⟨e1, Option.some.inj h1⟩
  · rw [if_neg e1] at h1
    by_cases e2 : e.k = 2
    · rw [if_pos e2] at h1
      by_cases hl : (stk l k).getLast? = some (nameP e)
      · rw [if_pos hl] at h1
        have h2 := Option.some.inj h1
        refine .inr (.inl ⟨e2, ?_⟩)
        rw [h2]
        obtain ⟨ys, hy⟩ := List.getLast?_eq_some_iff.1 hl
        rw [hy]; simp
      · rw [if_neg hl] at h1; cases h1
    · rw [if_neg e2] at h1
      exact .inr (.inr ⟨e1, e2, Option.some.inj h1⟩)
theorem stk_path {l : List Ev} (h : stackO l = some []) : ∀ k, k ≤ l.length → pathP (l.take k) = (stk l k).map Prod.snd := by
  intro k
  induction k with
  | zero => intro _; rfl
  | succ k ih =>
    intro hk
    have hx : l[k]? = some l[k] := List.getElem?_eq_getElem (by omega)
    rw [pathP_succ l k _ hx, ih (by omega)]
    unfold stepP
    rcases stk_step h hx with ⟨e1, e⟩ | ⟨e1, e⟩ | ⟨e1, e2, e⟩
    · rw [if_pos e1, e]; simp [nameP]
    · rw [if_neg (by omega), if_pos e1, e]; simp
    · rw [if_neg e1, if_neg e2, e]
theorem stk_depth {l : List Ev} (h : stackO l = some []) (i : Nat) : ∀ j, i + j ≤ l.length → depthK (l.drop i) j = ((stk l (i + j)).length : Int) - (stk l i).length := by
  intro j
  induction j with
  | zero => intro _; rw [depthK_zero]; simp
  | succ j ih =>
    intro hj
    have hx : l[i + j]? = some l[i + j] := List.getElem?_eq_getElem (by omega)
    have hd : (l.drop i)[j]? = some l[i + j] := by rw [List.getElem?_drop]; exact hx
    rw [depthK_succ _ _ _ hd, ih (by omega)]
    unfold delta
    have e0 : i + (j + 1) = i + j + 1 := by omega
    rw [e0]
    rcases stk_step h hx with ⟨e1, e⟩ | ⟨e1, e⟩ | ⟨e1, e2, e⟩
    · rw [if_pos e1, e]; simp; omega
    · rw [if_neg (by omega), if_pos e1, e]; simp; omega
    · rw [if_neg e1, if_neg e2, e]; omega
/-- As long as the depth has not come back, the element is open. -/
theorem stk_within {l : List Ev} (h : stackO l = some []) {i : Nat} {x : Ev} (hi : l[i]? = some x) (hx : x.k = 1) : ∀ j, i + (j + 1) ≤ l.length → (∀ t, t < j → ¬ depthK (l.drop i) (t + 1) = 0) → (¬ depthK (l.drop i) (j + 1) = 0 → ∃ r, stk l (i + (j + 1)) = stk l i ++ [nameP x] ++ r) ∧
    (depthK (l.drop i) (j + 1) = 0 → 1 ≤ j ∧ stk l (i + (j + 1)) = stk l i ∧ stk l (i + j) = stk l i ++ [nameP x] ∧ ∃ y, l[i + j]? = some y ∧ y.k = 2 ∧ nameP y = nameP x) := by
  intro j
  induction j with
  | zero =>
    intro hj _
    rcases stk_step h hi with ⟨e1, e⟩ | ⟨e1, e⟩ | ⟨e1, e2, e⟩
    · refine ⟨fun _ => ⟨[], by rw [Nat.zero_add, e]; simp⟩, fun h0 => ?_⟩
      rw [stk_depth h i 1 hj, e] at h0
      simp at h0; omega
    · omega
    · omega
  | succ j ih =>
    intro hj hn
    obtain ⟨r, hr⟩ := (ih (by omega) (fun t ht => hn t (by omega))).1 (hn j (by omega))
    have hx' : l[i + (j + 1)]? = some l[i + (j + 1)] := List.getElem?_eq_getElem (by omega)
    have e0 : i + (j + 1 + 1) = i + (j + 1) + 1 := by omega
    have hd := stk_depth h i (j + 1 + 1) hj
    rw [e0] at hd ⊢
    rcases stk_step h hx' with ⟨e1, e⟩ | ⟨e1, e⟩ | ⟨e1, e2, e⟩
    · refine ⟨fun _ => ⟨r ++ [nameP l[i + (j + 1)]], by rw [e, hr]; simp⟩, fun h0 => ?_⟩
      rw [h0, e, hr] at hd
      simp at hd; omega
    · rw [hr] at e
      rcases List.eq_nil_or_concat r with hr0 | ⟨r', y, hr0⟩
      · subst hr0
        rw [List.append_nil] at e hr
        obtain ⟨e3, e4⟩ := List.append_inj' e rfl
        refine ⟨fun h0 => ?_, fun _ => ⟨by omega, e3.symm, hr, _, hx', e1, by simpa using e4.symm⟩⟩
        rw [← e3] at hd
        exact absurd (by omega) h0
      · rw [List.concat_eq_append] at hr0
        subst hr0
        rw [← List.append_assoc] at e
        obtain ⟨e3, e4⟩ := List.append_inj' e rfl
        refine ⟨fun _ => ⟨r', e3.symm⟩, fun h0 => ?_⟩
        rw [h0, ← e3] at hd
        simp at hd; omega
    · refine ⟨fun _ => ⟨r, by rw [e, hr]⟩, fun h0 => ?_⟩
      rw [h0, e, hr] at hd
      simp at hd; omega
/-- Each begin has its end. -/
theorem balanced {l : List Ev} (h : stackO l = some []) {i : Nat} {x : Ev} (hi : l[i]? = some x) (hx : x.k = 1) :
    ∃ to y, i < to ∧ to < l.length ∧ spanR l i = ((to : Int), 0) ∧ l[to]? = some y ∧ nameP y = nameP x ∧ pathP (l.take to) = pathP (l.take i) ++ [x.lo] ∧ pathP (l.take (to + 1)) = pathP (l.take i) := by
  have hil : i < l.length := (List.getElem?_eq_some_iff.1 hi).1
  have hex : ∃ j, i + (j + 1) ≤ l.length ∧ depthK (l.drop i) (j + 1) = 0 := by
    refine Classical.byContradiction fun hno => ?_
    have hall : ∀ t, i + (t + 1) ≤ l.length → ¬ depthK (l.drop i) (t + 1) = 0 := fun t ht h0 => hno ⟨t, ht, h0⟩
    obtain ⟨r, hr⟩ := (stk_within h hi hx (l.length - i - 1) (by omega) (fun t ht => hall t (by omega))).1 (hall _ (by omega))
    rw [show i + (l.length - i - 1 + 1) = l.length by omega, stk_end h] at hr
    have := congrArg List.length hr
    simp at this
  obtain ⟨j, hj, h0, hmin⟩ : ∃ j, i + (j + 1) ≤ l.length ∧ depthK (l.drop i) (j + 1) = 0 ∧ ∀ t, t < j → ¬ depthK (l.drop i) (t + 1) = 0 := by
    obtain ⟨j, hj, h0⟩ := hex
    induction j using Nat.strongRecOn with
    | _ j ih =>
      by_cases hm : ∃ t, t < j ∧ depthK (l.drop i) (t + 1) = 0
      · obtain ⟨t, ht, h1⟩ := hm
        exact ih t ht (by omega) h1
      · exact ⟨j, hj, h0, fun t ht h1 => hm ⟨t, ht, h1⟩⟩
  obtain ⟨hj1, s1, s2, y, hy, hy2, hyn⟩ := (stk_within h hi hx j hj hmin).2 h0
  refine ⟨i + j, y, by omega, by omega, ?_, hy, hyn, ?_, ?_⟩
  · unfold spanR
    rw [hi]
    simp only [hx, if_true]
    rw [spanF_some (l := l.drop i) (k := j) (by rw [List.length_drop]; omega) h0 hmin]
    rfl
  · rw [stk_path h _ (by omega), stk_path h _ (by omega), s2]; simp [nameP]
  · rw [stk_path h _ (by omega), stk_path h _ (by omega), show i + j + 1 = i + (j + 1) by omega, s1]
end Go.Proofs.Ytdhgkbghlkhfeaa
