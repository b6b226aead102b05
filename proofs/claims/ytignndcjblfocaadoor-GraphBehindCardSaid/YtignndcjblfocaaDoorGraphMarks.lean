/- Marks that spread along ways: all pairs, round by round (the reference), and a row of waiting places (the program). -/
import Derived.Test.YtignndcjblfocaaDoorGraphPlain
namespace Go.Proofs.YtignndcjblfocaaDoor.GraphPlain
def mk (t : List Bool) (j : Nat) : Bool := t.getD j false
theorem mk_set (t : List Bool) (j x : Nat) : mk (t.set j true) x = (mk t x || (decide (x = j) && decide (j < t.length))) := by
  unfold mk
  rw [List.getD_eq_getElem?_getD, List.getD_eq_getElem?_getD, List.getElem?_set]
  by_cases h : j = x
  · subst h
    by_cases h2 : j < t.length
    · simp [h2]
    · simp [h2]
  · have h' : ¬ x = j := fun e => h e.symm
    simp [h, h']
/-- All of a row are marked. -/
def markAll (t : List Bool) (r : List Nat) : List Bool := r.foldl (fun t j => t.set j true) t
theorem markAll_len (r : List Nat) : ∀ t, (markAll t r).length = t.length := by
  induction r with
  | nil => intro t; rfl
  | cons j r ih => intro t; exact (ih _).trans (by simp)
theorem mk_markAll (r : List Nat) : ∀ (t : List Bool) (x : Nat), (∀ j ∈ r, j < t.length) → mk (markAll t r) x = (mk t x || r.contains x) := by
  induction r with
  | nil => intro t x _; simp [markAll]
  | cons j r ih =>
    intro t x h
    show mk (markAll (t.set j true) r) x = _
    rw [ih _ x (by simpa using fun k hk => h k (List.mem_cons_of_mem _ hk)), mk_set, decide_eq_true (h j (List.mem_cons_self ..))]
    by_cases e : x = j
    · subst e; simp
    · simp [e]
theorem mk_len {t : List Bool} {x : Nat} (h : mk t x = true) : x < t.length := by
  rcases Nat.lt_or_ge x t.length with h' | h'
  · exact h'
  · unfold mk at h; rw [List.getD_eq_getElem?_getD, List.getElem?_eq_none h'] at h; cases h
theorem list_ext_mk {t u : List Bool} (hl : t.length = u.length) (h : ∀ x, mk t x = mk u x) : t = u := by
  apply List.ext_getElem hl
  intro i h1 h2
  have := h i
  unfold mk at this
  rw [List.getD_eq_getElem?_getD, List.getD_eq_getElem?_getD, List.getElem?_eq_getElem h1, List.getElem?_eq_getElem h2] at this
  simpa using this
/-- One place of a round. -/
def stepI (G : Gr) (f : Nat) (t : List Bool) (i : Nat) : List Bool := if i = f ∨ mk t i = true then markAll t (row G i) else t
def passTo (G : Gr) (f : Nat) (t : List Bool) : Nat → List Bool
  | 0 => t
  | i + 1 => stepI G f (passTo G f t i) i
def passN (G : Gr) (f : Nat) (t : List Bool) : List Bool := passTo G f t G.length
def roundsN (G : Gr) (f : Nat) : Nat → List Bool
  | 0 => List.replicate G.length false
  | m + 1 => passN G f (roundsN G f m)
/-- The marks behind all rounds. -/
def leadsN (G : Gr) (f : Nat) : List Bool := roundsN G f (G.length + 1)
theorem stepI_len (G : Gr) (f : Nat) (t : List Bool) (i : Nat) : (stepI G f t i).length = t.length := by unfold stepI; split; exact markAll_len _ _; rfl
theorem passTo_len (G : Gr) (f : Nat) (t : List Bool) (i : Nat) : (passTo G f t i).length = t.length := by
  induction i with
  | zero => rfl
  | succ i ih => exact (stepI_len ..).trans ih
theorem roundsN_len (G : Gr) (f : Nat) (m : Nat) : (roundsN G f m).length = G.length := by
  induction m with
  | zero => simp [roundsN]
  | succ m ih => exact (passTo_len ..).trans ih
theorem mk_stepI {G : Gr} (hG : okG G) (f : Nat) (t : List Bool) (i x : Nat) (ht : t.length = G.length) : mk (stepI G f t i) x = (mk t x || (decide (i = f ∨ mk t i = true) && (row G i).contains x)) := by
  unfold stepI
  split
  · rename_i h
    rw [mk_markAll _ _ _ (fun j hj => by rw [ht]; exact hG _ _ hj), decide_eq_true h]; simp
  · rename_i h
    rw [decide_eq_false h]; simp
def Sound (G : Gr) (f : Nat) (t : List Bool) : Prop := ∀ x, mk t x = true → Way G f x
theorem stepI_sound {G : Gr} (hG : okG G) {f : Nat} {t : List Bool} {i : Nat} (ht : t.length = G.length) (h : Sound G f t) : Sound G f (stepI G f t i) := by
  intro x hx
  rw [mk_stepI hG _ _ _ _ ht] at hx
  rcases Bool.or_eq_true_iff.1 hx with hx | hx
  · exact h x hx
  · obtain ⟨h1, h2⟩ := Bool.and_eq_true_iff.1 hx
    have h2 : x ∈ row G i := by simpa using h2
    rcases of_decide_eq_true h1 with rfl | h3
    · exact .one h2
    · exact .more (h i h3) h2
theorem passTo_sound {G : Gr} (hG : okG G) {f : Nat} {t : List Bool} (ht : t.length = G.length) (h : Sound G f t) (i : Nat) : Sound G f (passTo G f t i) := by
  induction i with
  | zero => exact h
  | succ i ih => exact stepI_sound hG ((passTo_len ..).trans ht) ih
theorem roundsN_sound {G : Gr} (hG : okG G) (f : Nat) (m : Nat) : Sound G f (roundsN G f m) := by
  induction m with
  | zero =>
    intro x hx
    exfalso
    unfold mk roundsN at hx
    rw [List.getD_eq_getElem?_getD] at hx
    rcases Nat.lt_or_ge x G.length with h | h
    · rw [List.getElem?_eq_getElem (by simpa using h)] at hx; simp at hx
    · rw [List.getElem?_eq_none (by simpa using h)] at hx; simp at hx
  | succ m ih => exact passTo_sound hG (roundsN_len ..) ih _
def Closed (G : Gr) (f : Nat) (t : List Bool) : Prop := ∀ i, (i = f ∨ mk t i = true) → ∀ j ∈ row G i, mk t j = true
theorem passTo_mono {G : Gr} (hG : okG G) {f : Nat} {t : List Bool} (ht : t.length = G.length) (i x : Nat) (h : mk t x = true) : mk (passTo G f t i) x = true := by
  induction i with
  | zero => exact h
  | succ i ih => unfold passTo; rw [mk_stepI hG _ _ _ _ ((passTo_len ..).trans ht), ih]; rfl
theorem passTo_marks {G : Gr} (hG : okG G) {f : Nat} {t : List Bool} (ht : t.length = G.length) {i : Nat} (hi : i = f ∨ mk t i = true) {j : Nat} (hj : j ∈ row G i) (m : Nat) (hm : i < m) : mk (passTo G f t m) j = true := by
  induction m with
  | zero => omega
  | succ m ih =>
    unfold passTo
    rw [mk_stepI hG _ _ _ _ ((passTo_len ..).trans ht)]
    by_cases e : i = m
    · subst e
      have : i = f ∨ mk (passTo G f t i) i = true := hi.imp id (passTo_mono hG ht i i)
      rw [decide_eq_true this]
      simp [hj]
    · rw [ih (by omega)]; rfl
theorem passTo_closed {G : Gr} (hG : okG G) {f : Nat} {t : List Bool} (ht : t.length = G.length) (h : Closed G f t) (m : Nat) : passTo G f t m = t := by
  induction m with
  | zero => rfl
  | succ m ih =>
    unfold passTo
    rw [ih]
    refine list_ext_mk (stepI_len ..) fun x => ?_
    rw [mk_stepI hG _ _ _ _ ht]
    cases hx : mk t x with
    | true => rfl
    | false =>
      rw [Bool.false_or]
      cases hc : (decide (m = f ∨ mk t m = true) && (row G m).contains x) with
      | false => rfl
      | true =>
        obtain ⟨h1, h2⟩ := Bool.and_eq_true_iff.1 hc
        have := h m (of_decide_eq_true h1) x (by simpa using h2)
        rw [hx] at this; cases this
theorem rounds_grow {G : Gr} (hG : okG G) (f : Nat) (m : Nat) : Closed G f (roundsN G f m) ∨ m ≤ cnt (mk (roundsN G f m)) G.length := by
  induction m with
  | zero => exact .inr (Nat.zero_le _)
  | succ m ih =>
    have hl := roundsN_len G f m
    rcases Classical.em (Closed G f (roundsN G f m)) with h | h
    · left
      show Closed G f (passN G f (roundsN G f m))
      unfold passN
      rw [passTo_closed hG hl h]; exact h
    · rcases ih with h' | h'
      · exact absurd h' h
      · right
        have ⟨i, hi, j, hj, hx⟩ : ∃ i, (i = f ∨ mk (roundsN G f m) i = true) ∧ ∃ j ∈ row G i, ¬ mk (roundsN G f m) j = true := by
          refine Classical.byContradiction fun hn => h fun i hi j hj => Classical.byContradiction fun hx => hn ⟨i, hi, j, hj, hx⟩
        have h1 := cnt_lt (p := mk (roundsN G f m)) (q := mk (roundsN G f (m + 1))) (n := G.length) (fun x _ hx => passTo_mono hG hl _ _ hx) (hG _ _ hj) (by simpa using hx) (passTo_marks hG hl hi hj _ (row_lt hj))
        omega
theorem leadsN_closed {G : Gr} (hG : okG G) (f : Nat) : Closed G f (leadsN G f) := by
  rcases rounds_grow hG f (G.length + 1) with h | h
  · exact h
  · have := cnt_le (mk (roundsN G f (G.length + 1))) G.length
    omega
theorem closed_way {G : Gr} {f : Nat} {t : List Bool} (h : Closed G f t) {x : Nat} (w : Way G f x) : mk t x = true := by
  induction w with
  | one h1 => exact h _ (.inl rfl) _ h1
  | more w h1 ih => exact h _ (.inr ih) _ h1
/-- The marks are the places to which ways lead. -/
theorem leadsN_iff {G : Gr} (hG : okG G) (f x : Nat) : mk (leadsN G f) x = true ↔ Way G f x := ⟨roundsN_sound hG f _ x, closed_way (leadsN_closed hG f)⟩
/-! A row of waiting places -/
/-- How often each was met. -/
def sn (s : List Nat) (j : Nat) : Nat := s.getD j 0
theorem sn_set (s : List Nat) (j x v : Nat) : sn (s.set j v) x = if x = j ∧ j < s.length then v else sn s x := by
  unfold sn
  rw [List.getD_eq_getElem?_getD, List.getD_eq_getElem?_getD, List.getElem?_set]
  by_cases h : j = x
  · subst h
    by_cases h2 : j < s.length
    · simp [h2]
    · simp [h2]
  · have h' : ¬ x = j := fun e => h e.symm
    simp [h, h']
/-- How much may still come. -/
def sumTo (G : Gr) (s : List Nat) : Nat → Nat
  | 0 => 0
  | i + 1 => sumTo G s i + if sn s i = 0 then (row G i).length else 0
theorem sumTo_other {G : Gr} {s u : List Nat} (n : Nat) (h : ∀ i, i < n → (sn s i = 0 ↔ sn u i = 0)) : sumTo G s n = sumTo G u n := by
  induction n with
  | zero => rfl
  | succ n ih =>
    unfold sumTo
    rw [ih fun i hi => h i (by omega)]
    by_cases h1 : sn s n = 0
    · rw [if_pos h1, if_pos ((h n (by omega)).1 h1)]
    · rw [if_neg h1, if_neg fun h2 => h1 ((h n (by omega)).2 h2)]
theorem sumTo_new {G : Gr} {s u : List Nat} {a n : Nat} (ha : a < n) (h1 : sn s a = 0) (h2 : sn u a ≠ 0) (h : ∀ i, i < n → i ≠ a → (sn s i = 0 ↔ sn u i = 0)) : sumTo G s n = sumTo G u n + (row G a).length := by
  induction n with
  | zero => omega
  | succ n ih =>
    unfold sumTo
    by_cases e : a = n
    · subst e
      rw [sumTo_other a fun i hi => h i (by omega) (by omega), if_pos h1, if_neg h2]; omega
    · rw [ih (by omega) fun i hi hne => h i (by omega) hne]
      have := h n (by omega) (fun e' => e e'.symm)
      by_cases h3 : sn s n = 0
      · rw [if_pos h3, if_pos (this.1 h3)]; omega
      · rw [if_neg h3, if_neg fun h4 => h3 (this.2 h4)]; omega
/-- What holds in the loop: w are the waiting ones, s the counts. -/
structure Waits (G : Gr) (f : Nat) (s w : List Nat) : Prop where
  len : s.length = G.length
  seen : ∀ x, sn s x ≠ 0 → Way G f x
  wait : ∀ x ∈ w, Way G f x
  first : ∀ x ∈ row G f, sn s x ≠ 0 ∨ x ∈ w
  next : ∀ i, sn s i ≠ 0 → ∀ x ∈ row G i, sn s x ≠ 0 ∨ x ∈ w
def waitM (G : Gr) (s w : List Nat) : Nat := w.length + sumTo G s G.length
theorem Waits.start (G : Gr) (f : Nat) : Waits G f (List.replicate G.length 0) (row G f) := by
  have h0 : ∀ x, sn (List.replicate G.length 0) x = 0 := by
    intro x
    unfold sn
    rw [List.getD_eq_getElem?_getD]
    rcases Nat.lt_or_ge x G.length with h | h
    · rw [List.getElem?_eq_getElem (by simpa using h)]; simp
    · rw [List.getElem?_eq_none (by simpa using h)]; rfl
  exact ⟨by simp, fun x h => absurd (h0 x) h, fun x h => .one h, fun x h => .inr h, fun i h => absurd (h0 i) h⟩
theorem Waits.again {G : Gr} {f : Nat} {s w : List Nat} {i : Nat} (h : Waits G f s (w ++ [i])) (hi : sn s i ≠ 0) : Waits G f (s.set i (sn s i + 1)) w ∧ waitM G (s.set i (sn s i + 1)) w + 1 = waitM G s (w ++ [i]) := by
  have hw := h.wait i (by simp)
  have hz : ∀ x, (sn (s.set i (sn s i + 1)) x = 0 ↔ sn s x = 0) := by
    intro x
    rw [sn_set]
    by_cases e : x = i ∧ i < s.length
    · rw [if_pos e, e.1]; constructor
      · intro h'; omega
      · intro h'; exact absurd h' hi
    · rw [if_neg e]
  have hz' : ∀ x, (sn (s.set i (sn s i + 1)) x ≠ 0 ↔ sn s x ≠ 0) := fun x => not_congr (hz x)
  have side : ∀ x, sn s x ≠ 0 ∨ x ∈ w ++ [i] → sn (s.set i (sn s i + 1)) x ≠ 0 ∨ x ∈ w := by
    intro x hx
    rcases hx with hx | hx
    · exact .inl ((hz' x).2 hx)
    · rcases List.mem_append.1 hx with hx | hx
      · exact .inr hx
      · obtain rfl : x = i := by simpa using hx
        exact .inl ((hz' _).2 hi)
  refine ⟨⟨by simpa using h.len, fun x hx => h.seen x ((hz' x).1 hx), fun x hx => h.wait x (List.mem_append_left _ hx), fun x hx => side x (h.first x hx), fun k hk x hx => side x (h.next k ((hz' k).1 hk) x hx)⟩, ?_⟩
  unfold waitM
  rw [sumTo_other (s := s.set i (sn s i + 1)) (u := s) _ fun x _ => hz x]
  simp; omega
theorem Waits.fresh {G : Gr} {f : Nat} {s w : List Nat} {i : Nat} (hG : okG G) (h : Waits G f s (w ++ [i])) (hi : sn s i = 0) : Waits G f (s.set i 1) (w ++ row G i) ∧ waitM G (s.set i 1) (w ++ row G i) + 1 = waitM G s (w ++ [i]) := by
  have hw := h.wait i (by simp)
  have hlt : i < s.length := by rw [h.len]; exact hw.lt hG
  have hs : sn (s.set i 1) i = 1 := by rw [sn_set, if_pos ⟨rfl, hlt⟩]
  have ho : ∀ x, x ≠ i → sn (s.set i 1) x = sn s x := fun x hx => by rw [sn_set, if_neg fun e => hx e.1]
  have side : ∀ x, sn s x ≠ 0 ∨ x ∈ w ++ [i] → sn (s.set i 1) x ≠ 0 ∨ x ∈ w ++ row G i := by
    intro x hx
    by_cases e : x = i
    · subst e; exact .inl (by rw [hs]; decide)
    · rcases hx with hx | hx
      · exact .inl (by rw [ho x e]; exact hx)
      · rcases List.mem_append.1 hx with hx | hx
        · exact .inr (List.mem_append_left _ hx)
        · exact absurd (by simpa using hx) e
  refine ⟨⟨by simpa using h.len, fun x hx => ?_, fun x hx => ?_, fun x hx => side x (h.first x hx), fun k hk x hx => ?_⟩, ?_⟩
  · by_cases e : x = i
    · subst e; exact hw
    · exact h.seen x (by rwa [ho x e] at hx)
  · rcases List.mem_append.1 hx with hx | hx
    · exact h.wait x (List.mem_append_left _ hx)
    · exact .more hw hx
  · by_cases e : k = i
    · subst e; exact .inr (List.mem_append_right _ hx)
    · exact side x (h.next k (by rwa [ho k e] at hk) x hx)
  · unfold waitM
    rw [sumTo_new (s := s) (u := s.set i 1) (a := i) (n := G.length) (by rw [← h.len]; exact hlt) hi (by rw [hs]; decide) fun x _ hx => by rw [ho x hx]]
    simp; omega
theorem Waits.done {G : Gr} {f : Nat} {s : List Nat} (h : Waits G f s []) (x : Nat) : sn s x ≠ 0 ↔ Way G f x := by
  refine ⟨h.seen x, fun w => ?_⟩
  induction w with
  | one h1 =>
    rcases h.first _ h1 with h2 | h2
    · exact h2
    · cases h2
  | more w h1 ih =>
    rcases h.next _ ih _ h1 with h2 | h2
    · exact h2
    · cases h2
end Go.Proofs.YtignndcjblfocaaDoor.GraphPlain
