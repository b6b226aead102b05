/- Plain facts on the runs of a class among rising numbers (no program in sight). -/
namespace Go.Proofs.YtbklopnpehafpaaDoor.CharsRuns
/-- What the runs of the first j numbers from lo on are; op: the last one goes on. -/
structure Inv (p : Int → Bool) (lo : Int) (j : Nat) (rs : List (Int × Int)) (op : Bool) : Prop where
  gap : rs.Pairwise (fun x y => x.2 + 1 < y.1)
  ord : ∀ x ∈ rs, x.1 ≤ x.2
  low : ∀ x ∈ rs, lo ≤ x.1
  high : ∀ x ∈ rs, x.2 < lo + j
  some : ∀ r, lo ≤ r → r < lo + j → p r = true → ∃ x ∈ rs, x.1 ≤ r ∧ r ≤ x.2
  only : ∀ x ∈ rs, ∀ r, x.1 ≤ r → r ≤ x.2 → p r = true
  shut : op = false → ∀ x ∈ rs, x.2 + 1 < lo + j
  goes : op = true → ∃ init a, rs = init ++ [(a, lo + j - 1)]
theorem Inv.nil (p : Int → Bool) (lo : Int) : Inv p lo 0 [] false :=
  ⟨List.Pairwise.nil, (fun x h => by cases h), (fun x h => by cases h), (fun x h => by cases h), (fun r h1 h2 => by omega), (fun x h => by cases h), (fun _ x h => by cases h), (fun h => by cases h)⟩
theorem Inv.no {p : Int → Bool} {lo : Int} {j : Nat} {rs : List (Int × Int)} {op : Bool} (h : Inv p lo j rs op) (hp : p (lo + j) = false) : Inv p lo (j + 1) rs false := by
  refine ⟨h.gap, h.ord, h.low, fun x hx => ?_, fun r h1 h2 h3 => ?_, h.only, fun _ x hx => ?_, (fun h => by cases h)⟩
  · have := h.high x hx; omega
  · by_cases e : r = lo + j
    · subst e; rw [hp] at h3; cases h3
    · exact h.some r h1 (by omega) h3
  · have := h.high x hx; omega
theorem Inv.new {p : Int → Bool} {lo : Int} {j : Nat} {rs : List (Int × Int)} (h : Inv p lo j rs false) (hp : p (lo + j) = true) : Inv p lo (j + 1) (rs ++ [(lo + j, lo + j)]) true := by
  refine ⟨?_, ?_, ?_, ?_, ?_, ?_, (fun h => by cases h), fun _ => ⟨rs, lo + j, by congr 3; omega⟩⟩
  · rw [List.pairwise_append]
    refine ⟨h.gap, List.pairwise_singleton _ _, fun x hx y hy => ?_⟩
    simp at hy; subst hy
    exact h.shut rfl x hx
  · intro x hx
    rcases List.mem_append.1 hx with hx | hx
    · exact h.ord x hx
    · simp at hx; subst hx; exact Int.le_refl _
  · intro x hx
    rcases List.mem_append.1 hx with hx | hx
    · exact h.low x hx
    · simp at hx; subst hx; show lo ≤ lo + j; omega
  · intro x hx
    rcases List.mem_append.1 hx with hx | hx
    · have := h.high x hx; omega
    · simp at hx; subst hx; show lo + (j : Int) < _; omega
  · intro r h1 h2 h3
    by_cases e : r = lo + j
    · exact ⟨(lo + j, lo + j), by simp, by show lo + (j : Int) ≤ r; omega, by show r ≤ lo + (j : Int); omega⟩
    · obtain ⟨x, hx, hh⟩ := h.some r h1 (by omega) h3
      exact ⟨x, List.mem_append.2 (.inl hx), hh⟩
  · intro x hx r h1 h2
    rcases List.mem_append.1 hx with hx | hx
    · exact h.only x hx r h1 h2
    · simp at hx; subst hx
      have : r = lo + j := by have a1 : lo + (j : Int) ≤ r := h1; have a2 : r ≤ lo + (j : Int) := h2; omega
      rw [this]; exact hp
theorem Inv.on {p : Int → Bool} {lo : Int} {j : Nat} {init : List (Int × Int)} {a b : Int} (h : Inv p lo j (init ++ [(a, b)]) true) (hp : p (lo + j) = true) : Inv p lo (j + 1) (init ++ [(a, lo + j)]) true := by
  have hb : b = lo + j - 1 := by
    obtain ⟨i', a', e⟩ := h.goes rfl
    have := (List.append_inj' e rfl).2
    simp at this; exact this.2
  subst hb
  have hin : ∀ x ∈ init, x ∈ init ++ [(a, lo + (j : Int) - 1)] := fun x hx => List.mem_append.2 (.inl hx)
  have hl : (a, lo + (j : Int) - 1) ∈ init ++ [(a, lo + (j : Int) - 1)] := by simp
  have hg := List.pairwise_append.1 h.gap
  have hab : a ≤ lo + j - 1 := h.ord _ hl
  have hla : lo ≤ a := h.low _ hl
  refine ⟨?_, ?_, ?_, ?_, ?_, ?_, (fun h => by cases h), fun _ => ⟨init, a, by congr 3; omega⟩⟩
  · rw [List.pairwise_append]
    refine ⟨hg.1, List.pairwise_singleton _ _, fun x hx y hy => ?_⟩
    simp at hy; subst hy
    exact hg.2.2 x hx (a, lo + (j : Int) - 1) (by simp)
  · intro x hx
    rcases List.mem_append.1 hx with hx | hx
    · exact h.ord x (hin x hx)
    · simp at hx; subst hx; show a ≤ lo + (j : Int); omega
  · intro x hx
    rcases List.mem_append.1 hx with hx | hx
    · exact h.low x (hin x hx)
    · simp at hx; subst hx; exact hla
  · intro x hx
    rcases List.mem_append.1 hx with hx | hx
    · have := h.high x (hin x hx); omega
    · simp at hx; subst hx; show lo + (j : Int) < _; omega
  · intro r h1 h2 h3
    by_cases e : r = lo + j
    · exact ⟨(a, lo + j), by simp, by show a ≤ r; omega, by show r ≤ lo + (j : Int); omega⟩
    · obtain ⟨x, hx, h4, h5⟩ := h.some r h1 (by omega) h3
      rcases List.mem_append.1 hx with hx | hx
      · exact ⟨x, List.mem_append.2 (.inl hx), h4, h5⟩
      · simp at hx; subst hx
        exact ⟨(a, lo + j), by simp, h4, by have a1 : r ≤ lo + (j : Int) - 1 := h5; show r ≤ lo + (j : Int); omega⟩
  · intro x hx r h1 h2
    rcases List.mem_append.1 hx with hx | hx
    · exact h.only x (hin x hx) r h1 h2
    · simp at hx; subst hx
      have a1 : a ≤ r := h1
      have a2 : r ≤ lo + (j : Int) := h2
      by_cases e : r = lo + j
      · rw [e]; exact hp
      · exact h.only _ hl r a1 (by show r ≤ lo + (j : Int) - 1; omega)
/-- The numbers of the runs, one behind the other. -/
def flat (rs : List (Int × Int)) : List Int := rs.flatMap fun x => [x.1, x.2]
theorem flat_length (rs : List (Int × Int)) : (flat rs).length = rs.length * 2 := by
  induction rs with
  | nil => rfl
  | cons x r ih => simp [flat] at ih ⊢; omega
theorem flat_append (a b : List (Int × Int)) : flat (a ++ b) = flat a ++ flat b := by simp [flat]
theorem flat_at (rs : List (Int × Int)) (i : Nat) (x : Int × Int) (h : rs[i]? = some x) : (flat rs)[i * 2]? = some x.1 ∧ (flat rs)[i * 2 + 1]? = some x.2 := by
  induction rs generalizing i with
  | nil => simp at h
  | cons y r ih =>
    have e : flat (y :: r) = y.1 :: y.2 :: flat r := by simp [flat]
    cases i with
    | zero => simp at h; subst h; rw [e]; exact ⟨rfl, rfl⟩
    | succ i =>
      have := ih i (by simpa using h)
      rw [e, show (i + 1) * 2 = i * 2 + 1 + 1 from by omega, List.getElem?_cons_succ, List.getElem?_cons_succ, List.getElem?_cons_succ, List.getElem?_cons_succ]
      exact this
theorem flat_set (init : List (Int × Int)) (a b c : Int) : (flat (init ++ [(a, b)])).set (init.length * 2 + 1) c = flat (init ++ [(a, c)]) := by
  have h1 : flat (init ++ [(a, b)]) = flat init ++ [a, b] := by rw [flat_append]; rfl
  have h2 : flat (init ++ [(a, c)]) = flat init ++ [a, c] := by rw [flat_append]; rfl
  rw [h1, h2, List.set_append_right _ _ (by rw [flat_length]; omega), flat_length, show init.length * 2 + 1 - init.length * 2 = 1 from by omega]; rfl
end Go.Proofs.YtbklopnpehafpaaDoor.CharsRuns
