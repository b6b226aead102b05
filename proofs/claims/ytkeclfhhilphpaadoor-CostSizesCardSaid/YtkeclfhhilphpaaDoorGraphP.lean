/- Merged texts: GraphPlain, GraphMarks, GraphDeep. -/
/- Plain facts on graphs as rows of places: ways, the order that can be told, marks that spread, depths. No program in sight. -/
namespace Go.Proofs.YtkeclfhhilphpaaDoor.GraphPlain
abbrev Gr := List (List Nat)
def row (G : Gr) (i : Nat) : List Nat := G.getD i []
def okG (G : Gr) : Prop := ∀ i, ∀ k ∈ row G i, k < G.length
inductive Way (G : Gr) : Nat → Nat → Prop
  | one {i j : Nat} : j ∈ row G i → Way G i j
  | more {i j k : Nat} : Way G i j → k ∈ row G j → Way G i k
theorem Way.cons {G : Gr} {i j k : Nat} (h : j ∈ row G i) (w : Way G j k) : Way G i k := by
  induction w with
  | one h2 => exact .more (.one h) h2
  | more _ h2 ih => exact .more ih h2
theorem row_lt {G : Gr} {i j : Nat} (h : j ∈ row G i) : i < G.length := by
  rcases Nat.lt_or_ge i G.length with h' | h'
  · exact h'
  · rw [row, List.getD_eq_getElem?_getD, List.getElem?_eq_none h'] at h; cases h
theorem Way.lt {G : Gr} (hG : okG G) {i j : Nat} (w : Way G i j) : j < G.length := by
  cases w with
  | one h => exact hG _ _ h
  | more _ h => exact hG _ _ h
/-- How many below n. -/
def cnt (p : Nat → Bool) : Nat → Nat
  | 0 => 0
  | n + 1 => cnt p n + if p n then 1 else 0
theorem cnt_le (p : Nat → Bool) (n : Nat) : cnt p n ≤ n := by
  induction n with
  | zero => exact Nat.le_refl _
  | succ n ih => unfold cnt; split <;> omega
theorem cnt_mono {p q : Nat → Bool} {n : Nat} (h : ∀ i, i < n → p i = true → q i = true) : cnt p n ≤ cnt q n := by
  induction n with
  | zero => exact Nat.le_refl _
  | succ n ih =>
    have h1 := ih fun i hi => h i (by omega)
    have h2 := h n (by omega)
    unfold cnt
    cases hp : p n with
    | false => simp; omega
    | true => rw [h2 hp]; simp; omega
theorem cnt_lt {p q : Nat → Bool} {n : Nat} (h : ∀ i, i < n → p i = true → q i = true) {a : Nat} (ha : a < n) (h1 : p a = false) (h2 : q a = true) : cnt p n < cnt q n := by
  induction n with
  | zero => omega
  | succ n ih =>
    unfold cnt
    by_cases e : a = n
    · subst e
      have := cnt_mono (n := a) (p := p) (q := q) fun i hi => h i (by omega)
      rw [h1, h2]; simp; omega
    · have h3 := ih (fun i hi => h i (by omega)) (by omega)
      have h4 := h n (by omega)
      cases hp : p n with
      | false => simp; omega
      | true => rw [h4 hp]; simp; omega
theorem cnt_full {p : Nat → Bool} {n : Nat} (h : cnt p n = n) : ∀ i, i < n → p i = true := by
  intro i hi
  cases hp : p i with
  | true => rfl
  | false =>
    have h1 := cnt_lt (p := p) (q := fun _ => true) (n := n) (fun _ _ _ => rfl) hi hp rfl
    have h2 := cnt_le (fun _ => true) n
    omega
theorem cnt_next {p q : Nat → Bool} {n a : Nat} (ha : a < n) (h1 : p a = false) (h2 : q a = true) (h : ∀ i, i < n → i ≠ a → p i = q i) : cnt q n = cnt p n + 1 := by
  induction n with
  | zero => omega
  | succ n ih =>
    unfold cnt
    by_cases e : a = n
    · subst e
      have e1 : ∀ m, m ≤ a → cnt q m = cnt p m := by
        intro m
        induction m with
        | zero => intro _; rfl
        | succ m im => intro hm; unfold cnt; rw [im (by omega), h m (by omega) (by omega)]
      rw [e1 a (Nat.le_refl _), h1, h2]; simp
    · rw [ih (by omega) (fun i hi hne => h i (by omega) hne), h n (by omega) (fun e' => e e'.symm)]
      omega
theorem cnt_none (n : Nat) : cnt (fun _ => false) n = 0 := by
  induction n with
  | zero => rfl
  | succ n ih => unfold cnt; rw [ih]; rfl
/-! The order -/
def free (G : Gr) (l : List Nat) (i : Nat) : Bool := !l.contains i && (row G i).all fun j => l.contains j
def pick (G : Gr) (l : List Nat) : Option Nat := (List.range G.length).find? (free G l)
def orderF (G : Gr) : Nat → List Nat → List Nat
  | 0, l => l
  | f + 1, l => match pick G l with
    | some i => orderF G f (l ++ [i])
    | none => l
def orderN (G : Gr) : List Nat := orderF G G.length []
/-- Each is a place, is new, and stands behind those to which it leads. -/
inductive Good (G : Gr) : List Nat → Prop
  | nil : Good G []
  | snoc {l : List Nat} {i : Nat} : Good G l → i < G.length → i ∉ l → (∀ j ∈ row G i, j ∈ l) → Good G (l ++ [i])
theorem free_iff {G : Gr} {l : List Nat} {i : Nat} : free G l i = true ↔ i ∉ l ∧ ∀ j ∈ row G i, j ∈ l := by
  simp [free, List.contains_eq_mem]
theorem pick_some {G : Gr} {l : List Nat} {i : Nat} (h : pick G l = some i) : i < G.length ∧ i ∉ l ∧ ∀ j ∈ row G i, j ∈ l := by
  have h1 := List.mem_of_find?_eq_some h
  have h2 := List.find?_some h
  exact ⟨List.mem_range.1 h1, free_iff.1 h2⟩
theorem Good.count {G : Gr} {l : List Nat} (h : Good G l) : cnt (fun i => l.contains i) G.length = l.length := by
  induction h with
  | nil => exact (cnt_none _)
  | snoc h1 h2 h3 h4 ih =>
    rename_i l i
    rw [cnt_next (p := fun x => l.contains x) h2 (by simpa using h3) (by simp) (fun x _ hne => by simp [hne]), ih]
    simp
theorem Good.len {G : Gr} {l : List Nat} (h : Good G l) : l.length ≤ G.length := by rw [← h.count]; exact cnt_le _ _
theorem Good.full {G : Gr} {l : List Nat} (h : Good G l) (hl : l.length = G.length) : ∀ i, i < G.length → i ∈ l := by
  intro i hi
  have h1 := cnt_full (h.count.trans hl) i hi
  simpa using h1
theorem orderF_good {G : Gr} : ∀ (f : Nat) (l : List Nat), Good G l → Good G (orderF G f l) := by
  intro f
  induction f with
  | zero => intro l h; exact h
  | succ f ih =>
    intro l h
    unfold orderF
    cases hp : pick G l with
    | none => exact h
    | some i => obtain ⟨h1, h2, h3⟩ := pick_some hp; exact ih _ (.snoc h h1 h2 h3)
theorem orderN_good (G : Gr) : Good G (orderN G) := orderF_good _ _ .nil
theorem orderF_end {G : Gr} : ∀ (f : Nat) (l : List Nat), Good G l → G.length ≤ f + l.length → pick G (orderF G f l) = none := by
  intro f
  induction f with
  | zero =>
    intro l h hf
    unfold orderF
    cases hp : pick G l with
    | none => rfl
    | some i =>
      obtain ⟨h1, h2, _⟩ := pick_some hp
      exact absurd (h.full (by have := h.len; omega) i h1) h2
  | succ f ih =>
    intro l h hf
    unfold orderF
    cases hp : pick G l with
    | none => exact hp
    | some i =>
      obtain ⟨h1, h2, h3⟩ := pick_some hp
      exact ih _ (.snoc h h1 h2 h3) (by simp; omega)
theorem orderN_end (G : Gr) : pick G (orderN G) = none := orderF_end _ _ .nil (by simp)
theorem orderF_step {G : Gr} {l : List Nat} {i : Nat} (f : Nat) (h : pick G l = some i) : orderF G (f + 1) l = orderF G f (l ++ [i]) := by
  conv => lhs; unfold orderF
  rw [h]
theorem orderF_stop {G : Gr} {l : List Nat} (f : Nat) (h : pick G l = none) : orderF G f l = l := by
  cases f with
  | zero => rfl
  | succ f => unfold orderF; rw [h]
/-- Those that are told so far, as steps of the order. -/
def OrdAt (G : Gr) (l : List Nat) : Prop := Good G l ∧ orderN G = orderF G (G.length - l.length) l
theorem OrdAt.nil (G : Gr) : OrdAt G [] := ⟨.nil, rfl⟩
theorem OrdAt.snoc {G : Gr} {l : List Nat} {i : Nat} (h : OrdAt G l) (hp : pick G l = some i) : OrdAt G (l ++ [i]) := by
  obtain ⟨h1, h2, h3⟩ := pick_some hp
  have hg := Good.snoc h.1 h1 h2 h3
  refine ⟨hg, ?_⟩
  have hl := hg.len
  simp at hl
  rw [h.2, show G.length - l.length = (G.length - (l ++ [i]).length) + 1 by simp; omega, orderF_step _ hp]
theorem OrdAt.done {G : Gr} {l : List Nat} (h : OrdAt G l) (hp : pick G l = none) : orderN G = l := by rw [h.2, orderF_stop _ hp]
/-! Ways that lead back -/
theorem Good.ways {G : Gr} {l : List Nat} (h : Good G l) : ∀ i ∈ l, ∀ j, Way G i j → j ∈ l ∧ i ≠ j := by
  induction h with
  | nil => intro i hi; cases hi
  | snoc h1 h2 h3 h4 ih =>
    rename_i l a
    have key : ∀ j, Way G a j → j ∈ l := by
      intro j w
      induction w with
      | one h => exact h4 _ h
      | more w h ih2 => exact (ih _ ih2 _ (.one h)).1
    intro i hi j w
    rcases List.mem_append.1 hi with hi | hi
    · exact ⟨List.mem_append_left _ (ih i hi j w).1, (ih i hi j w).2⟩
    · obtain rfl : i = a := by simpa using hi
      have := key j w
      exact ⟨List.mem_append_left _ this, fun e => h3 (e ▸ this)⟩
theorem full_no_loop {G : Gr} {l : List Nat} (h : Good G l) (hl : l.length = G.length) (i : Nat) : ¬ Way G i i := by
  intro w
  have hi : i < G.length := by
    cases w with
    | one h => exact row_lt h
    | more w h =>
      rename_i j
      clear h
      induction w with
      | one h => exact row_lt h
      | more _ _ ih => exact ih
  exact (h.ways i (h.full hl i hi) i w).2 rfl
open Classical in
theorem stuck_loop {G : Gr} (hG : okG G) (U : Nat → Prop) (hU : ∀ i, U i → ∃ j ∈ row G i, U j) : ∀ (m u : Nat), cnt (fun j => decide (Way G u j)) G.length ≤ m → U u → ∃ i, U i ∧ Way G i i := by
  intro m
  induction m with
  | zero =>
    intro u hm hu
    obtain ⟨v, hv, hUv⟩ := hU u hu
    have h1 := cnt_lt (p := fun _ => false) (q := fun j => decide (Way G u j)) (n := G.length) (fun _ _ h => by cases h) (hG _ _ hv) rfl (by simpa using Way.one hv)
    omega
  | succ m ih =>
    intro u hm hu
    obtain ⟨v, hv, hUv⟩ := hU u hu
    by_cases hvv : Way G v v
    · exact ⟨v, hUv, hvv⟩
    · refine ih v ?_ hUv
      have h1 := cnt_lt (p := fun j => decide (Way G v j)) (q := fun j => decide (Way G u j)) (n := G.length) (fun j _ h => by simp at h ⊢; exact Way.cons hv h) (hG _ _ hv) (by simpa using hvv) (by simpa using Way.one hv)
      omega
theorem stuck {G : Gr} (hG : okG G) {l : List Nat} (h : Good G l) (hp : pick G l = none) (hl : l.length < G.length) : ∃ i, i < G.length ∧ Way G i i := by
  have hn : ∀ i, i < G.length → i ∉ l → ∃ j ∈ row G i, j ∉ l := by
    intro i hi hil
    have h1 := List.find?_eq_none.1 hp i (List.mem_range.2 hi)
    rcases Classical.em (∃ j ∈ row G i, j ∉ l) with h2 | h2
    · exact h2
    · exact absurd (free_iff.2 ⟨hil, fun j hj => Classical.byContradiction fun h3 => h2 ⟨j, hj, h3⟩⟩) h1
  have hex : ∃ i, i < G.length ∧ i ∉ l := by
    rcases Classical.em (∃ i, i < G.length ∧ i ∉ l) with h2 | h2
    · exact h2
    · exfalso
      have h3 : cnt (fun _ => true) G.length ≤ cnt (fun i => l.contains i) G.length := cnt_mono fun i hi _ => by
        rcases Classical.em (i ∈ l) with h4 | h4
        · simpa using h4
        · exact absurd ⟨i, hi, h4⟩ h2
      have h4 : ∀ n, cnt (fun _ => true) n = n := by
        intro n; induction n with
        | zero => rfl
        | succ n ih => unfold cnt; rw [ih]; rfl
      rw [h4, h.count] at h3
      omega
  obtain ⟨u, hu⟩ := hex
  obtain ⟨i, hi, w⟩ := stuck_loop hG (fun i => i < G.length ∧ i ∉ l) (fun i hi => by
    obtain ⟨j, hj, hjl⟩ := hn i hi.1 hi.2
    exact ⟨j, hj, hG _ _ hj, hjl⟩) _ u (Nat.le_refl _) hu
  exact ⟨i, hi.1, w⟩
/-- The order tells all if and only if no way leads back. -/
theorem order_full_iff {G : Gr} (hG : okG G) : (orderN G).length = G.length ↔ ¬ ∃ i, i < G.length ∧ Way G i i := by
  constructor
  · rintro h ⟨i, _, w⟩
    exact full_no_loop (orderN_good G) h i w
  · intro h
    have h1 := (orderN_good G).len
    rcases Nat.lt_or_ge (orderN G).length G.length with h2 | h2
    · exact absurd (stuck hG (orderN_good G) (orderN_end G) h2) h
    · omega
end Go.Proofs.YtkeclfhhilphpaaDoor.GraphPlain
/- Marks that spread along ways: all pairs, round by round (the reference), and a row of waiting places (the program). -/
namespace Go.Proofs.YtkeclfhhilphpaaDoor.GraphPlain
def mk (t : List Bool) (j : Nat) : Bool := t.getD j false
theorem mk_set (t : List Bool) (j x : Nat) : mk (t.set j true) x = (mk t x || (decide (x = j) && decide (j < t.length))) := by
  unfold mk
  rw [List.getD_eq_getElem?_getD, List.getD_eq_getElem?_getD, List.getElem?_set]
  by_cases h : j = x
  · subst h
    by_cases h2 : j < t.length
    · simp [h2]
    · simp [h2]
  · have h' : ¬ x = j := fun e => h e.symm
    simp [h, h']
/-- All of a row are marked. -/
def markAll (t : List Bool) (r : List Nat) : List Bool := r.foldl (fun t j => t.set j true) t
theorem markAll_len (r : List Nat) : ∀ t, (markAll t r).length = t.length := by
  induction r with
  | nil => intro t; rfl
  | cons j r ih => intro t; exact (ih _).trans (by simp)
theorem mk_markAll (r : List Nat) : ∀ (t : List Bool) (x : Nat), (∀ j ∈ r, j < t.length) → mk (markAll t r) x = (mk t x || r.contains x) := by
  induction r with
  | nil => intro t x _; simp [markAll]
  | cons j r ih =>
    intro t x h
    show mk (markAll (t.set j true) r) x = _
    rw [ih _ x (by simpa using fun k hk => h k (List.mem_cons_of_mem _ hk)), mk_set, decide_eq_true (h j (List.mem_cons_self ..))]
    by_cases e : x = j
    · subst e; simp
    · simp [e]
theorem mk_len {t : List Bool} {x : Nat} (h : mk t x = true) : x < t.length := by
  rcases Nat.lt_or_ge x t.length with h' | h'
  · exact h'
  · unfold mk at h; rw [List.getD_eq_getElem?_getD, List.getElem?_eq_none h'] at h; cases h
theorem list_ext_mk {t u : List Bool} (hl : t.length = u.length) (h : ∀ x, mk t x = mk u x) : t = u := by
  apply List.ext_getElem hl
  intro i h1 h2
  have := h i
  unfold mk at this
  rw [List.getD_eq_getElem?_getD, List.getD_eq_getElem?_getD, List.getElem?_eq_getElem h1, List.getElem?_eq_getElem h2] at this
  simpa using this
/-- One place of a round. -/
def stepI (G : Gr) (f : Nat) (t : List Bool) (i : Nat) : List Bool := if i = f ∨ mk t i = true then markAll t (row G i) else t
def passTo (G : Gr) (f : Nat) (t : List Bool) : Nat → List Bool
  | 0 => t
  | i + 1 => stepI G f (passTo G f t i) i
def passN (G : Gr) (f : Nat) (t : List Bool) : List Bool := passTo G f t G.length
def roundsN (G : Gr) (f : Nat) : Nat → List Bool
  | 0 => List.replicate G.length false
  | m + 1 => passN G f (roundsN G f m)
/-- The marks behind all rounds. -/
def leadsN (G : Gr) (f : Nat) : List Bool := roundsN G f (G.length + 1)
theorem stepI_len (G : Gr) (f : Nat) (t : List Bool) (i : Nat) : (stepI G f t i).length = t.length := by unfold stepI; split; exact markAll_len _ _; rfl
theorem passTo_len (G : Gr) (f : Nat) (t : List Bool) (i : Nat) : (passTo G f t i).length = t.length := by
  induction i with
  | zero => rfl
  | succ i ih => exact (stepI_len ..).trans ih
theorem roundsN_len (G : Gr) (f : Nat) (m : Nat) : (roundsN G f m).length = G.length := by
  induction m with
  | zero => simp [roundsN]
  | succ m ih => exact (passTo_len ..).trans ih
theorem mk_stepI {G : Gr} (hG : okG G) (f : Nat) (t : List Bool) (i x : Nat) (ht : t.length = G.length) : mk (stepI G f t i) x = (mk t x || (decide (i = f ∨ mk t i = true) && (row G i).contains x)) := by
  unfold stepI
  split
  · rename_i h
    rw [mk_markAll _ _ _ (fun j hj => by rw [ht]; exact hG _ _ hj), decide_eq_true h]; simp
  · rename_i h
    rw [decide_eq_false h]; simp
def Sound (G : Gr) (f : Nat) (t : List Bool) : Prop := ∀ x, mk t x = true → Way G f x
theorem stepI_sound {G : Gr} (hG : okG G) {f : Nat} {t : List Bool} {i : Nat} (ht : t.length = G.length) (h : Sound G f t) : Sound G f (stepI G f t i) := by
  intro x hx
  rw [mk_stepI hG _ _ _ _ ht] at hx
  rcases Bool.or_eq_true_iff.1 hx with hx | hx
  · exact h x hx
  · obtain ⟨h1, h2⟩ := Bool.and_eq_true_iff.1 hx
    have h2 : x ∈ row G i := by simpa using h2
    rcases of_decide_eq_true h1 with rfl | h3
    · exact .one h2
    · exact .more (h i h3) h2
theorem passTo_sound {G : Gr} (hG : okG G) {f : Nat} {t : List Bool} (ht : t.length = G.length) (h : Sound G f t) (i : Nat) : Sound G f (passTo G f t i) := by
  induction i with
  | zero => exact h
  | succ i ih => exact stepI_sound hG ((passTo_len ..).trans ht) ih
theorem roundsN_sound {G : Gr} (hG : okG G) (f : Nat) (m : Nat) : Sound G f (roundsN G f m) := by
  induction m with
  | zero =>
    intro x hx
    exfalso
    unfold mk roundsN at hx
    rw [List.getD_eq_getElem?_getD] at hx
    rcases Nat.lt_or_ge x G.length with h | h
    · rw [List.getElem?_eq_getElem (by simpa using h)] at hx; simp at hx
    · rw [List.getElem?_eq_none (by simpa using h)] at hx; simp at hx
  | succ m ih => exact passTo_sound hG (roundsN_len ..) ih _
def Closed (G : Gr) (f : Nat) (t : List Bool) : Prop := ∀ i, (i = f ∨ mk t i = true) → ∀ j ∈ row G i, mk t j = true
theorem passTo_mono {G : Gr} (hG : okG G) {f : Nat} {t : List Bool} (ht : t.length = G.length) (i x : Nat) (h : mk t x = true) : mk (passTo G f t i) x = true := by
  induction i with
  | zero => exact h
  | succ i ih => unfold passTo; rw [mk_stepI hG _ _ _ _ ((passTo_len ..).trans ht), ih]; rfl
theorem passTo_marks {G : Gr} (hG : okG G) {f : Nat} {t : List Bool} (ht : t.length = G.length) {i : Nat} (hi : i = f ∨ mk t i = true) {j : Nat} (hj : j ∈ row G i) (m : Nat) (hm : i < m) : mk (passTo G f t m) j = true := by
  induction m with
  | zero => omega
  | succ m ih =>
    unfold passTo
    rw [mk_stepI hG _ _ _ _ ((passTo_len ..).trans ht)]
    by_cases e : i = m
    · subst e
      have : i = f ∨ mk (passTo G f t i) i = true := hi.imp id (passTo_mono hG ht i i)
      rw [decide_eq_true this]
      simp [hj]
    · rw [ih (by omega)]; rfl
theorem passTo_closed {G : Gr} (hG : okG G) {f : Nat} {t : List Bool} (ht : t.length = G.length) (h : Closed G f t) (m : Nat) : passTo G f t m = t := by
  induction m with
  | zero => rfl
  | succ m ih =>
    unfold passTo
    rw [ih]
    refine list_ext_mk (stepI_len ..) fun x => ?_
    rw [mk_stepI hG _ _ _ _ ht]
    cases hx : mk t x with
    | true => rfl
    | false =>
      rw [Bool.false_or]
      cases hc : (decide (m = f ∨ mk t m = true) && (row G m).contains x) with
      | false => rfl
      | true =>
        obtain ⟨h1, h2⟩ := Bool.and_eq_true_iff.1 hc
        have := h m (of_decide_eq_true h1) x (by simpa using h2)
        rw [hx] at this; cases this
theorem rounds_grow {G : Gr} (hG : okG G) (f : Nat) (m : Nat) : Closed G f (roundsN G f m) ∨ m ≤ cnt (mk (roundsN G f m)) G.length := by
  induction m with
  | zero => exact .inr (Nat.zero_le _)
  | succ m ih =>
    have hl := roundsN_len G f m
    rcases Classical.em (Closed G f (roundsN G f m)) with h | h
    · left
      show Closed G f (passN G f (roundsN G f m))
      unfold passN
      rw [passTo_closed hG hl h]; exact h
    · rcases ih with h' | h'
      · exact absurd h' h
      · right
        have ⟨i, hi, j, hj, hx⟩ : ∃ i, (i = f ∨ mk (roundsN G f m) i = true) ∧ ∃ j ∈ row G i, ¬ mk (roundsN G f m) j = true := by
          refine Classical.byContradiction fun hn => h fun i hi j hj => Classical.byContradiction fun hx => hn ⟨i, hi, j, hj, hx⟩
        have h1 := cnt_lt (p := mk (roundsN G f m)) (q := mk (roundsN G f (m + 1))) (n := G.length) (fun x _ hx => passTo_mono hG hl _ _ hx) (hG _ _ hj) (by simpa using hx) (passTo_marks hG hl hi hj _ (row_lt hj))
        omega
theorem leadsN_closed {G : Gr} (hG : okG G) (f : Nat) : Closed G f (leadsN G f) := by
  rcases rounds_grow hG f (G.length + 1) with h | h
  · exact h
  · have := cnt_le (mk (roundsN G f (G.length + 1))) G.length
    omega
theorem closed_way {G : Gr} {f : Nat} {t : List Bool} (h : Closed G f t) {x : Nat} (w : Way G f x) : mk t x = true := by
  induction w with
  | one h1 => exact h _ (.inl rfl) _ h1
  | more w h1 ih => exact h _ (.inr ih) _ h1
/-- The marks are the places to which ways lead. -/
theorem leadsN_iff {G : Gr} (hG : okG G) (f x : Nat) : mk (leadsN G f) x = true ↔ Way G f x := ⟨roundsN_sound hG f _ x, closed_way (leadsN_closed hG f)⟩
/-! A row of waiting places -/
/-- How often each was met. -/
def sn (s : List Nat) (j : Nat) : Nat := s.getD j 0
theorem sn_set (s : List Nat) (j x v : Nat) : sn (s.set j v) x = if x = j ∧ j < s.length then v else sn s x := by
  unfold sn
  rw [List.getD_eq_getElem?_getD, List.getD_eq_getElem?_getD, List.getElem?_set]
  by_cases h : j = x
  · subst h
    by_cases h2 : j < s.length
    · simp [h2]
    · simp [h2]
  · have h' : ¬ x = j := fun e => h e.symm
    simp [h, h']
/-- How much may still come. -/
def sumTo (G : Gr) (s : List Nat) : Nat → Nat
  | 0 => 0
  | i + 1 => sumTo G s i + if sn s i = 0 then (row G i).length else 0
theorem sumTo_other {G : Gr} {s u : List Nat} (n : Nat) (h : ∀ i, i < n → (sn s i = 0 ↔ sn u i = 0)) : sumTo G s n = sumTo G u n := by
  induction n with
  | zero => rfl
  | succ n ih =>
    unfold sumTo
    rw [ih fun i hi => h i (by omega)]
    by_cases h1 : sn s n = 0
    · rw [if_pos h1, if_pos ((h n (by omega)).1 h1)]
    · rw [if_neg h1, if_neg fun h2 => h1 ((h n (by omega)).2 h2)]
theorem sumTo_new {G : Gr} {s u : List Nat} {a n : Nat} (ha : a < n) (h1 : sn s a = 0) (h2 : sn u a ≠ 0) (h : ∀ i, i < n → i ≠ a → (sn s i = 0 ↔ sn u i = 0)) : sumTo G s n = sumTo G u n + (row G a).length := by
  induction n with
  | zero => omega
  | succ n ih =>
    unfold sumTo
    by_cases e : a = n
    · subst e
      rw [sumTo_other a fun i hi => h i (by omega) (by omega), if_pos h1, if_neg h2]; omega
    · rw [ih (by omega) fun i hi hne => h i (by omega) hne]
      have := h n (by omega) (fun e' => e e'.symm)
      by_cases h3 : sn s n = 0
      · rw [if_pos h3, if_pos (this.1 h3)]; omega
      · rw [if_neg h3, if_neg fun h4 => h3 (this.2 h4)]; omega
/-- What holds in the loop: w are the waiting ones, s the counts. -/
structure Waits (G : Gr) (f : Nat) (s w : List Nat) : Prop where
  len : s.length = G.length
  seen : ∀ x, sn s x ≠ 0 → Way G f x
  wait : ∀ x ∈ w, Way G f x
  first : ∀ x ∈ row G f, sn s x ≠ 0 ∨ x ∈ w
  next : ∀ i, sn s i ≠ 0 → ∀ x ∈ row G i, sn s x ≠ 0 ∨ x ∈ w
def waitM (G : Gr) (s w : List Nat) : Nat := w.length + sumTo G s G.length
theorem Waits.start (G : Gr) (f : Nat) : Waits G f (List.replicate G.length 0) (row G f) := by
  have h0 : ∀ x, sn (List.replicate G.length 0) x = 0 := by
    intro x
    unfold sn
    rw [List.getD_eq_getElem?_getD]
    rcases Nat.lt_or_ge x G.length with h | h
    · rw [List.getElem?_eq_getElem (by simpa using h)]; simp
    · rw [List.getElem?_eq_none (by simpa using h)]; rfl
  exact ⟨by simp, fun x h => absurd (h0 x) h, fun x h => .one h, fun x h => .inr h, fun i h => absurd (h0 i) h⟩
theorem Waits.again {G : Gr} {f : Nat} {s w : List Nat} {i : Nat} (h : Waits G f s (w ++ [i])) (hi : sn s i ≠ 0) : Waits G f (s.set i (sn s i + 1)) w ∧ waitM G (s.set i (sn s i + 1)) w + 1 = waitM G s (w ++ [i]) := by
  have hw := h.wait i (by simp)
  have hz : ∀ x, (sn (s.set i (sn s i + 1)) x = 0 ↔ sn s x = 0) := by
    intro x
    rw [sn_set]
    by_cases e : x = i ∧ i < s.length
    · rw [if_pos e, e.1]; constructor
      · intro h'; omega
      · intro h'; exact absurd h' hi
    · rw [if_neg e]
  have hz' : ∀ x, (sn (s.set i (sn s i + 1)) x ≠ 0 ↔ sn s x ≠ 0) := fun x => not_congr (hz x)
  have side : ∀ x, sn s x ≠ 0 ∨ x ∈ w ++ [i] → sn (s.set i (sn s i + 1)) x ≠ 0 ∨ x ∈ w := by
    intro x hx
    rcases hx with hx | hx
    · exact .inl ((hz' x).2 hx)
    · rcases List.mem_append.1 hx with hx | hx
      · exact .inr hx
      · obtain rfl : x = i := by simpa using hx
        exact .inl ((hz' _).2 hi)
  refine ⟨⟨by simpa using h.len, fun x hx => h.seen x ((hz' x).1 hx), fun x hx => h.wait x (List.mem_append_left _ hx), fun x hx => side x (h.first x hx), fun k hk x hx => side x (h.next k ((hz' k).1 hk) x hx)⟩, ?_⟩
  unfold waitM
  rw [sumTo_other (s := s.set i (sn s i + 1)) (u := s) _ fun x _ => hz x]
  simp; omega
theorem Waits.fresh {G : Gr} {f : Nat} {s w : List Nat} {i : Nat} (hG : okG G) (h : Waits G f s (w ++ [i])) (hi : sn s i = 0) : Waits G f (s.set i 1) (w ++ row G i) ∧ waitM G (s.set i 1) (w ++ row G i) + 1 = waitM G s (w ++ [i]) := by
  have hw := h.wait i (by simp)
  have hlt : i < s.length := by rw [h.len]; exact hw.lt hG
  have hs : sn (s.set i 1) i = 1 := by rw [sn_set, if_pos ⟨rfl, hlt⟩]
  have ho : ∀ x, x ≠ i → sn (s.set i 1) x = sn s x := fun x hx => by rw [sn_set, if_neg fun e => hx e.1]
  have side : ∀ x, sn s x ≠ 0 ∨ x ∈ w ++ [i] → sn (s.set i 1) x ≠ 0 ∨ x ∈ w ++ row G i := by
    intro x hx
    by_cases e : x = i
    · subst e; exact .inl (by rw [hs]; decide)
    · rcases hx with hx | hx
      · exact .inl (by rw [ho x e]; exact hx)
      · rcases List.mem_append.1 hx with hx | hx
        · exact .inr (List.mem_append_left _ hx)
        · exact absurd (by simpa using hx) e
  refine ⟨⟨by simpa using h.len, fun x hx => ?_, fun x hx => ?_, fun x hx => side x (h.first x hx), fun k hk x hx => ?_⟩, ?_⟩
  · by_cases e : x = i
    · subst e; exact hw
    · exact h.seen x (by rwa [ho x e] at hx)
  · rcases List.mem_append.1 hx with hx | hx
    · exact h.wait x (List.mem_append_left _ hx)
    · exact .more hw hx
  · by_cases e : k = i
    · subst e; exact .inr (List.mem_append_right _ hx)
    · exact side x (h.next k (by rwa [ho k e] at hk) x hx)
  · unfold waitM
    rw [sumTo_new (s := s) (u := s.set i 1) (a := i) (n := G.length) (by rw [← h.len]; exact hlt) hi (by rw [hs]; decide) fun x _ hx => by rw [ho x hx]]
    simp; omega
theorem Waits.done {G : Gr} {f : Nat} {s : List Nat} (h : Waits G f s []) (x : Nat) : sn s x ≠ 0 ↔ Way G f x := by
  refine ⟨h.seen x, fun w => ?_⟩
  induction w with
  | one h1 =>
    rcases h.first _ h1 with h2 | h2
    · exact h2
    · cases h2
  | more w h1 ih =>
    rcases h.next _ ih _ h1 with h2 | h2
    · exact h2
    · cases h2
end Go.Proofs.YtkeclfhhilphpaaDoor.GraphPlain
/- Depths: along the order (the program), round by round (the reference); and where each stands. -/
namespace Go.Proofs.YtkeclfhhilphpaaDoor.GraphPlain
/-- The most of a row's depths. -/
def mostN (d : List Nat) (r : List Nat) : Nat := r.foldl (fun m k => max m (sn d k)) 0
theorem mostN_go (d : List Nat) (r : List Nat) : ∀ m, r.foldl (fun m k => max m (sn d k)) m = max m (mostN d r) := by
  induction r with
  | nil => intro m; simp [mostN]
  | cons k r ih =>
    intro m
    show r.foldl _ (max m (sn d k)) = max m (r.foldl _ (max 0 (sn d k)))
    rw [ih, ih]
    omega
theorem mostN_snoc (d : List Nat) (r : List Nat) (k : Nat) : mostN d (r ++ [k]) = max (mostN d r) (sn d k) := by
  unfold mostN; rw [List.foldl_append]; rfl
theorem mostN_congr {d e : List Nat} {r : List Nat} (h : ∀ k ∈ r, sn d k = sn e k) : mostN d r = mostN e r := by
  induction r with
  | nil => rfl
  | cons k r ih =>
    show r.foldl _ (max 0 (sn d k)) = r.foldl _ (max 0 (sn e k))
    rw [mostN_go, mostN_go, h k (List.mem_cons_self ..), ih fun x hx => h x (List.mem_cons_of_mem _ hx)]
theorem mostN_ge {d : List Nat} {r : List Nat} {k : Nat} (h : k ∈ r) : sn d k ≤ mostN d r := by
  induction r with
  | nil => cases h
  | cons x r ih =>
    show _ ≤ r.foldl _ (max 0 (sn d x))
    rw [mostN_go]
    rcases List.mem_cons.1 h with rfl | h
    · omega
    · have := ih h; omega
theorem mostN_le {d : List Nat} {r : List Nat} {b : Nat} (h : ∀ k ∈ r, sn d k ≤ b) : mostN d r ≤ b := by
  induction r with
  | nil => exact Nat.zero_le _
  | cons x r ih =>
    show r.foldl _ (max 0 (sn d x)) ≤ b
    rw [mostN_go]
    have h1 := h x (List.mem_cons_self ..)
    have h2 := ih fun k hk => h k (List.mem_cons_of_mem _ hk)
    omega
/-- One place's depth. -/
def deepI (G : Gr) (d : List Nat) (i : Nat) : List Nat := d.set i (mostN d (row G i) + 1)
/-- Along a row of places. -/
def deepO (G : Gr) (l : List Nat) : List Nat := l.foldl (deepI G) (List.replicate G.length 0)
theorem deepO_snoc (G : Gr) (l : List Nat) (i : Nat) : deepO G (l ++ [i]) = deepI G (deepO G l) i := by unfold deepO; rw [List.foldl_append]; rfl
theorem deepF_len (G : Gr) (l : List Nat) : ∀ d, (l.foldl (deepI G) d).length = d.length := by
  induction l with
  | nil => intro d; rfl
  | cons i l ih => intro d; exact (ih _).trans (by simp [deepI])
theorem deepO_len (G : Gr) (l : List Nat) : (deepO G l).length = G.length := (deepF_len G l _).trans (by simp)
theorem sn_zero (n x : Nat) : sn (List.replicate n 0) x = 0 := by
  unfold sn
  rw [List.getD_eq_getElem?_getD]
  rcases Nat.lt_or_ge x n with h | h
  · rw [List.getElem?_eq_getElem (by simpa using h)]; simp
  · rw [List.getElem?_eq_none (by simpa using h)]; rfl
theorem Good.succ {G : Gr} {l : List Nat} (h : Good G l) : ∀ x ∈ l, ∀ j ∈ row G x, j ∈ l := by
  intro x hx j hj
  exact (h.ways x hx j (.one hj)).1
theorem Good.bound {G : Gr} {l : List Nat} (h : Good G l) : ∀ x ∈ l, x < G.length := by
  induction h with
  | nil => intro x hx; cases hx
  | snoc h1 h2 h3 h4 ih =>
    intro x hx
    rcases List.mem_append.1 hx with hx | hx
    · exact ih x hx
    · obtain rfl : x = _ := List.mem_singleton.1 hx
      exact h2
def DeepEq (G : Gr) (d : List Nat) (l : List Nat) : Prop := ∀ x ∈ l, sn d x = mostN d (row G x) + 1
theorem sn_deepI {G : Gr} {d : List Nat} {i : Nat} (hi : i < d.length) (x : Nat) : sn (deepI G d i) x = if x = i then mostN d (row G i) + 1 else sn d x := by
  unfold deepI
  rw [sn_set]
  by_cases e : x = i
  · rw [if_pos ⟨e, hi⟩, if_pos e]
  · rw [if_neg (fun h => e h.1), if_neg e]
theorem deepO_eq {G : Gr} {l : List Nat} (h : Good G l) : DeepEq G (deepO G l) l := by
  induction h with
  | nil => intro x hx; cases hx
  | snoc h1 h2 h3 h4 ih =>
    rename_i l a
    have hl : a < (deepO G l).length := by rw [deepO_len]; exact h2
    have keep : ∀ r : List Nat, a ∉ r → mostN (deepI G (deepO G l) a) r = mostN (deepO G l) r := fun r hr => mostN_congr fun k hk => by
      rw [sn_deepI hl, if_neg (fun (e : k = a) => hr (e ▸ hk))]
    intro x hx
    rw [deepO_snoc, sn_deepI hl]
    by_cases e : x = a
    · subst e
      rw [if_pos rfl, keep _ fun hm => h3 (h4 _ hm)]
    · rw [if_neg e]
      have hx : x ∈ l := by
        rcases List.mem_append.1 hx with hx | hx
        · exact hx
        · exact absurd (List.mem_singleton.1 hx) e
      rw [keep _ fun hm => h3 (h1.succ x hx a hm)]
      exact ih x hx
theorem deepO_zero {G : Gr} {l : List Nat} (h : Good G l) : ∀ i, i ∉ l → sn (deepO G l) i = 0 := by
  induction h with
  | nil => intro i _; unfold deepO; rw [List.foldl_nil, sn_zero]
  | snoc h1 h2 h3 h4 ih =>
    intro i hi
    rw [deepO_snoc, sn_deepI (by rw [deepO_len]; exact h2), if_neg (fun e => hi (by rw [e]; simp))]
    exact ih i fun hm => hi (List.mem_append_left _ hm)
theorem Good.init {G : Gr} {l : List Nat} (h : Good G l) : ∀ m, Good G (l.take m) := by
  induction h with
  | nil => intro m; simpa using Good.nil
  | snoc h1 h2 h3 h4 ih =>
    rename_i l i
    intro m
    rcases Nat.lt_or_ge l.length m with hm | hm
    · rw [List.take_of_length_le (by simp; omega)]; exact .snoc h1 h2 h3 h4
    · rw [List.take_append_of_le_length hm]; exact ih m
def deepTo (G : Gr) (d : List Nat) : Nat → List Nat
  | 0 => d
  | i + 1 => deepI G (deepTo G d i) i
def deepR (G : Gr) : Nat → List Nat
  | 0 => List.replicate G.length 0
  | m + 1 => deepTo G (deepR G m) G.length
def depthsN (G : Gr) : List Nat := deepR G (G.length + 1)
theorem deepTo_len (G : Gr) (d : List Nat) (i : Nat) : (deepTo G d i).length = d.length := by
  induction i with
  | zero => rfl
  | succ i ih => unfold deepTo deepI; rw [List.length_set]; exact ih
theorem deepR_len (G : Gr) (m : Nat) : (deepR G m).length = G.length := by
  induction m with
  | zero => simp [deepR]
  | succ m ih => exact (deepTo_len ..).trans ih
def Agree (D : List Nat) (l : List Nat) (d : List Nat) : Prop := ∀ x ∈ l, sn d x = sn D x
theorem agree_pass {G : Gr} {D d l : List Nat} (hs : ∀ x ∈ l, ∀ j ∈ row G x, j ∈ l) (hD : DeepEq G D l) (hd : d.length = G.length) (h : Agree D l d) : ∀ m, m ≤ G.length → Agree D l (deepTo G d m) := by
  intro m
  induction m with
  | zero => intro _; exact h
  | succ m ih =>
    intro hm x hx
    have ih := ih (by omega)
    unfold deepTo
    rw [sn_deepI (by rw [deepTo_len, hd]; omega)]
    by_cases e : x = m
    · subst e
      rw [if_pos rfl, hD x hx, mostN_congr fun k hk => ih k (hs x hx k hk)]
    · rw [if_neg e]; exact ih x hx
theorem agree_new {G : Gr} {D d l : List Nat} {a : Nat} (hs : ∀ x ∈ l, ∀ j ∈ row G x, j ∈ l) (hD : DeepEq G D (l ++ [a])) (hd : d.length = G.length) (h : Agree D l d) (h4 : ∀ j ∈ row G a, j ∈ l) : ∀ m, m ≤ G.length → a < m → sn (deepTo G d m) a = sn D a := by
  intro m
  induction m with
  | zero => intro _ h; omega
  | succ m ih =>
    intro hm ha
    unfold deepTo
    rw [sn_deepI (by rw [deepTo_len, hd]; omega)]
    by_cases e : a = m
    · subst e
      rw [if_pos rfl, hD a (by simp), mostN_congr fun k hk => agree_pass hs (fun x hx => hD x (List.mem_append_left _ hx)) hd h a (by omega) k (h4 k hk)]
    · rw [if_neg e]; exact ih (by omega) (by omega)
theorem agree_rounds {G : Gr} {D l : List Nat} (hg : Good G l) (hD : DeepEq G D l) : ∀ m, l.length ≤ m → Agree D l (deepR G m) := by
  induction hg with
  | nil => intro m _ x hx; cases hx
  | snoc h1 h2 h3 h4 ih =>
    rename_i l a
    intro m hm
    cases m with
    | zero => simp at hm
    | succ m =>
      have hD' : DeepEq G D l := fun x hx => hD x (List.mem_append_left _ hx)
      have h5 := ih hD' m (by simp at hm; omega)
      intro x hx
      rcases List.mem_append.1 hx with hx | hx
      · exact agree_pass h1.succ hD' (deepR_len ..) h5 _ (Nat.le_refl _) x hx
      · obtain rfl : x = a := List.mem_singleton.1 hx
        exact agree_new h1.succ hD (deepR_len ..) h5 h4 _ (Nat.le_refl _) h2
theorem list_ext_sn {t u : List Nat} (hl : t.length = u.length) (h : ∀ x, x < t.length → sn t x = sn u x) : t = u := by
  apply List.ext_getElem hl
  intro i h1 h2
  have := h i h1
  unfold sn at this
  rw [List.getD_eq_getElem?_getD, List.getD_eq_getElem?_getD, List.getElem?_eq_getElem h1, List.getElem?_eq_getElem h2] at this
  simpa using this
/-- Both ways to reckon the depths tell the same. -/
theorem depths_same {G : Gr} {l : List Nat} (hg : Good G l) (hl : l.length = G.length) : deepO G l = depthsN G := by
  refine list_ext_sn ((deepO_len ..).trans (deepR_len ..).symm) fun x hx => ?_
  rw [deepO_len] at hx
  exact (agree_rounds hg (deepO_eq hg) _ (by omega) x (hg.full hl x hx)).symm
/-! How great -/
theorem deepI_le {G : Gr} {d : List Nat} {b i : Nat} (hi : i < d.length) (h : ∀ x, sn d x ≤ b) (x : Nat) : sn (deepI G d i) x ≤ b + 1 := by
  rw [sn_deepI hi]
  have h1 := mostN_le (r := row G i) fun k _ => h k
  have h2 := h x
  split <;> omega
theorem deepTo_le {G : Gr} {d : List Nat} {b : Nat} (hd : d.length = G.length) (h : ∀ x, sn d x ≤ b) : ∀ m, m ≤ G.length → ∀ x, sn (deepTo G d m) x ≤ b + m := by
  intro m
  induction m with
  | zero => intro _; exact h
  | succ m ih => intro hm x; exact deepI_le (by rw [deepTo_len, hd]; omega) (ih (by omega)) x
theorem deepR_le (G : Gr) : ∀ m x, sn (deepR G m) x ≤ m * G.length := by
  intro m
  induction m with
  | zero => intro x; unfold deepR; rw [sn_zero]; exact Nat.zero_le _
  | succ m ih =>
    intro x
    have := deepTo_le (deepR_len G m) ih _ (Nat.le_refl _) x
    rw [Nat.succ_mul]; exact this
theorem deepO_le {G : Gr} {l : List Nat} (hg : Good G l) : ∀ x, sn (deepO G l) x ≤ l.length := by
  induction hg with
  | nil => intro x; unfold deepO; rw [List.foldl_nil, sn_zero]; exact Nat.zero_le _
  | snoc h1 h2 h3 h4 ih => intro x; rw [deepO_snoc, List.length_append]; exact deepI_le (by rw [deepO_len]; exact h2) ih x
/-! Where each stands -/
def placeTo (G : Gr) (l : List Nat) : Nat → List Nat
  | 0 => List.replicate G.length 0
  | m + 1 => (placeTo G l m).set (sn l m) m
theorem placeTo_len (G : Gr) (l : List Nat) (m : Nat) : (placeTo G l m).length = G.length := by
  induction m with
  | zero => simp [placeTo]
  | succ m ih => unfold placeTo; rw [List.length_set]; exact ih
theorem sn_app (l r : List Nat) (k : Nat) (h : k < l.length) : sn (l ++ r) k = sn l k := by
  unfold sn; rw [List.getD_eq_getElem?_getD, List.getD_eq_getElem?_getD, List.getElem?_append_left h]
theorem sn_last (l : List Nat) (a : Nat) : sn (l ++ [a]) l.length = a := by
  unfold sn; rw [List.getD_eq_getElem?_getD, List.getElem?_append_right (Nat.le_refl _)]; simp
theorem sn_mem {l : List Nat} {k : Nat} (h : k < l.length) : sn l k ∈ l := by
  unfold sn; rw [List.getD_eq_getElem?_getD, List.getElem?_eq_getElem h]; exact List.getElem_mem h
theorem mem_sn {l : List Nat} {x : Nat} (h : x ∈ l) : ∃ k, k < l.length ∧ sn l k = x := by
  obtain ⟨k, hk, e⟩ := List.getElem_of_mem h
  refine ⟨k, hk, ?_⟩
  unfold sn; rw [List.getD_eq_getElem?_getD, List.getElem?_eq_getElem hk]; exact e
theorem Good.apart {G : Gr} {l : List Nat} (h : Good G l) : ∀ a b, a < l.length → b < l.length → sn l a = sn l b → a = b := by
  induction h with
  | nil => intro a b ha; cases ha
  | snoc h1 h2 h3 h4 ih =>
    rename_i l i
    intro a b ha hb e
    simp at ha hb
    by_cases ea : a = l.length
    · by_cases eb : b = l.length
      · omega
      · subst ea
        rw [sn_last, sn_app _ _ _ (by omega)] at e
        exact absurd (e ▸ sn_mem (by omega)) h3
    · by_cases eb : b = l.length
      · subst eb
        rw [sn_last, sn_app _ _ _ (by omega)] at e
        exact absurd (e ▸ sn_mem (by omega)) h3
      · rw [sn_app _ _ _ (by omega), sn_app _ _ _ (by omega)] at e
        exact ih a b (by omega) (by omega) e
theorem Good.before {G : Gr} {l : List Nat} (h : Good G l) : ∀ a, a < l.length → ∀ j ∈ row G (sn l a), ∃ b, b < a ∧ sn l b = j := by
  induction h with
  | nil => intro a ha; cases ha
  | snoc h1 h2 h3 h4 ih =>
    rename_i l i
    intro a ha j hj
    simp at ha
    by_cases ea : a = l.length
    · subst ea
      rw [sn_last] at hj
      obtain ⟨b, hb, e⟩ := mem_sn (h4 j hj)
      exact ⟨b, hb, by rw [sn_app _ _ _ hb]; exact e⟩
    · rw [sn_app _ _ _ (by omega)] at hj
      obtain ⟨b, hb, e⟩ := ih a (by omega) j hj
      exact ⟨b, hb, by rw [sn_app _ _ _ (by omega)]; exact e⟩
theorem place_at {G : Gr} {l : List Nat} (h : Good G l) : ∀ m, m ≤ l.length → ∀ k, k < m → sn (placeTo G l m) (sn l k) = k := by
  intro m
  induction m with
  | zero => intro _ k hk; omega
  | succ m ih =>
    intro hm k hk
    unfold placeTo
    rw [sn_set, placeTo_len]
    by_cases e : k = m
    · subst e; rw [if_pos ⟨rfl, h.bound _ (sn_mem (by omega))⟩]
    · rw [if_neg fun h' => e (h.apart k m (by omega) (by omega) h'.1)]
      exact ih (by omega) k (by omega)
theorem Good.lastOf {G : Gr} {l' : List Nat} (h : Good G l') : ∀ (t : List Nat) (x : Nat), l' = t ++ [x] → x ∉ t ∧ (∀ j ∈ row G x, j ∈ t) := by
  cases h with
  | nil => intro t x e; simp at e
  | snoc h1 h2 h3 h4 =>
    intro t x e
    obtain ⟨rfl, e2⟩ := List.append_inj' e rfl
    obtain rfl := by simpa using e2
    exact ⟨h3, h4⟩
theorem take_sn {l : List Nat} {m : Nat} (hm : m < l.length) : l.take (m + 1) = l.take m ++ [sn l m] := by
  unfold sn
  rw [List.take_add_one, List.getD_eq_getElem?_getD, List.getElem?_eq_getElem hm]; rfl
theorem Good.newAt {G : Gr} {l : List Nat} (h : Good G l) {m : Nat} (hm : m < l.length) : sn l m ∉ l.take m ∧ (∀ j ∈ row G (sn l m), j ∈ l.take m) := (h.init (m + 1)).lastOf _ _ (take_sn hm)
/-- Each stands behind those to which it leads, and is deeper. -/
theorem behind {G : Gr} {l : List Nat} (h : Good G l) (hl : l.length = G.length) {i j : Nat} (hj : j ∈ row G i) :
    sn (placeTo G l l.length) j < sn (placeTo G l l.length) i ∧ sn (deepO G l) j < sn (deepO G l) i := by
  obtain ⟨a, ha, ea⟩ := mem_sn (h.full hl i (row_lt hj))
  subst ea
  obtain ⟨b, hb, eb⟩ := h.before a ha j hj
  refine ⟨?_, ?_⟩
  · rw [← eb, place_at h _ (Nat.le_refl _) a ha, place_at h _ (Nat.le_refl _) b (by omega)]; exact hb
  · rw [deepO_eq h _ (sn_mem ha)]
    have := mostN_ge (d := deepO G l) hj
    omega
end Go.Proofs.YtkeclfhhilphpaaDoor.GraphPlain
