/- Plain facts on graphs as rows of places: ways, the order that can be told, marks that spread, depths. No program in sight. -/
namespace Go.Proofs.YtignndcjblfocaaDoor.GraphPlain
abbrev Gr := List (List Nat)
def row (G : Gr) (i : Nat) : List Nat := G.getD i []
def okG (G : Gr) : Prop := ∀ i, ∀ k ∈ row G i, k < G.length
inductive Way (G : Gr) : Nat → Nat → Prop
  | one {i j : Nat} : j ∈ row G i → Way G i j
  | more {i j k : Nat} : Way G i j → k ∈ row G j → Way G i k
theorem Way.cons {G : Gr} {i j k : Nat} (h : j ∈ row G i) (w : Way G j k) : Way G i k := by
  induction w with
  | one h2 => exact .more (.one h) h2
  | more _ h2 ih => exact .more ih h2
theorem row_lt {G : Gr} {i j : Nat} (h : j ∈ row G i) : i < G.length := by
  rcases Nat.lt_or_ge i G.length with h' | h'
  · exact h'
  · rw [row, List.getD_eq_getElem?_getD, List.getElem?_eq_none h'] at h; cases h
theorem Way.lt {G : Gr} (hG : okG G) {i j : Nat} (w : Way G i j) : j < G.length := by
  cases w with
  | one h => exact hG _ _ h
  | more _ h => exact hG _ _ h
/-- How many below n. -/
def cnt (p : Nat → Bool) : Nat → Nat
  | 0 => 0
  | n + 1 => cnt p n + if p n then 1 else 0
theorem cnt_le (p : Nat → Bool) (n : Nat) : cnt p n ≤ n := by
  induction n with
  | zero => exact Nat.le_refl _
  | succ n ih => unfold cnt; split <;> omega
theorem cnt_mono {p q : Nat → Bool} {n : Nat} (h : ∀ i, i < n → p i = true → q i = true) : cnt p n ≤ cnt q n := by
  induction n with
  | zero => exact Nat.le_refl _
  | succ n ih =>
    have h1 := ih fun i hi => h i (by omega)
    have h2 := h n (by omega)
    unfold cnt
    cases hp : p n with
    | false => simp; omega
    | true => rw [h2 hp]; simp; omega
theorem cnt_lt {p q : Nat → Bool} {n : Nat} (h : ∀ i, i < n → p i = true → q i = true) {a : Nat} (ha : a < n) (h1 : p a = false) (h2 : q a = true) : cnt p n < cnt q n := by
  induction n with
  | zero => omega
  | succ n ih =>
    unfold cnt
    by_cases e : a = n
    · subst e
      have := cnt_mono (n := a) (p := p) (q := q) fun i hi => h i (by omega)
      rw [h1, h2]; simp; omega
    · have h3 := ih (fun i hi => h i (by omega)) (by omega)
      have h4 := h n (by omega)
      cases hp : p n with
      | false => simp; omega
      | true => rw [h4 hp]; simp; omega
theorem cnt_full {p : Nat → Bool} {n : Nat} (h : cnt p n = n) : ∀ i, i < n → p i = true := by
  intro i hi
  cases hp : p i with
  | true => rfl
  | false =>
    have h1 := cnt_lt (p := p) (q := fun _ => true) (n := n) (fun _ _ _ => rfl) hi hp rfl
    have h2 := cnt_le (fun _ => true) n
    omega
theorem cnt_next {p q : Nat → Bool} {n a : Nat} (ha : a < n) (h1 : p a = false) (h2 : q a = true) (h : ∀ i, i < n → i ≠ a → p i = q i) : cnt q n = cnt p n + 1 := by
  induction n with
  | zero => omega
  | succ n ih =>
    unfold cnt
    by_cases e : a = n
    · subst e
      have e1 : ∀ m, m ≤ a → cnt q m = cnt p m := by
        intro m
        induction m with
        | zero => intro _; rfl
        | succ m im => intro hm; unfold cnt; rw [im (by omega), h m (by omega) (by omega)]
      rw [e1 a (Nat.le_refl _), h1, h2]; simp
    · rw [ih (by omega) (fun i hi hne => h i (by omega) hne), h n (by omega) (fun e' => e e'.symm)]
      omega
theorem cnt_none (n : Nat) : cnt (fun _ => false) n = 0 := by
  induction n with
  | zero => rfl
  | succ n ih => unfold cnt; rw [ih]; rfl
/-! The order -/
def free (G : Gr) (l : List Nat) (i : Nat) : Bool := !l.contains i && (row G i).all fun j => l.contains j
def pick (G : Gr) (l : List Nat) : Option Nat := (List.range G.length).find? (free G l)
def orderF (G : Gr) : Nat → List Nat → List Nat
  | 0, l => l
  | f + 1, l => match pick G l with
    | some i => orderF G f (l ++ [i])
    | none => l
def orderN (G : Gr) : List Nat := orderF G G.length []
/-- Each is a place, is new, and stands behind those to which it leads. -/
inductive Good (G : Gr) : List Nat → Prop
  | nil : Good G []
  | snoc {l : List Nat} {i : Nat} : Good G l → i < G.length → i ∉ l → (∀ j ∈ row G i, j ∈ l) → Good G (l ++ [i])
theorem free_iff {G : Gr} {l : List Nat} {i : Nat} : free G l i = true ↔ i ∉ l ∧ ∀ j ∈ row G i, j ∈ l := by
  simp [free, List.contains_eq_mem]
theorem pick_some {G : Gr} {l : List Nat} {i : Nat} (h : pick G l = some i) : i < G.length ∧ i ∉ l ∧ ∀ j ∈ row G i, j ∈ l := by
  have h1 := List.mem_of_find?_eq_some h
  have h2 := List.find?_some h
  exact ⟨List.mem_range.1 h1, free_iff.1 h2⟩
theorem Good.count {G : Gr} {l : List Nat} (h : Good G l) : cnt (fun i => l.contains i) G.length = l.length := by
  induction h with
  | nil => exact (cnt_none _)
  | snoc h1 h2 h3 h4 ih =>
    rename_i l i
    rw [cnt_next (p := fun x => l.contains x) h2 (by simpa using h3) (by simp) (fun x _ hne => by simp [hne]), ih]
    simp
theorem Good.len {G : Gr} {l : List Nat} (h : Good G l) : l.length ≤ G.length := by rw [← h.count]; exact cnt_le _ _
theorem Good.full {G : Gr} {l : List Nat} (h : Good G l) (hl : l.length = G.length) : ∀ i, i < G.length → i ∈ l := by
  intro i hi
  have h1 := cnt_full (h.count.trans hl) i hi
  simpa using h1
theorem orderF_good {G : Gr} : ∀ (f : Nat) (l : List Nat), Good G l → Good G (orderF G f l) := by
  intro f
  induction f with
  | zero => intro l h; exact h
  | succ f ih =>
    intro l h
    unfold orderF
    cases hp : pick G l with
    | none => exact h
    | some i => obtain ⟨h1, h2, h3⟩ := pick_some hp; exact ih _ (.snoc h h1 h2 h3)
theorem orderN_good (G : Gr) : Good G (orderN G) := orderF_good _ _ .nil
theorem orderF_end {G : Gr} : ∀ (f : Nat) (l : List Nat), Good G l → G.length ≤ f + l.length → pick G (orderF G f l) = none := by
  intro f
  induction f with
  | zero =>
    intro l h hf
    unfold orderF
    cases hp : pick G l with
    | none => rfl
    | some i =>
      obtain ⟨h1, h2, _⟩ := pick_some hp
      exact absurd (h.full (by have := h.len; omega) i h1) h2
  | succ f ih =>
    intro l h hf
    unfold orderF
    cases hp : pick G l with
    | none => exact hp
    | some i =>
      obtain ⟨h1, h2, h3⟩ := pick_some hp
      exact ih _ (.snoc h h1 h2 h3) (by simp; omega)
theorem orderN_end (G : Gr) : pick G (orderN G) = none := orderF_end _ _ .nil (by simp)
theorem orderF_step {G : Gr} {l : List Nat} {i : Nat} (f : Nat) (h : pick G l = some i) : orderF G (f + 1) l = orderF G f (l ++ [i]) := by
  conv => lhs; unfold orderF
  rw [h]
theorem orderF_stop {G : Gr} {l : List Nat} (f : Nat) (h : pick G l = none) : orderF G f l = l := by
  cases f with
  | zero => rfl
  | succ f => unfold orderF; rw [h]
/-- Those that are told so far, as steps of the order. -/
def OrdAt (G : Gr) (l : List Nat) : Prop := Good G l ∧ orderN G = orderF G (G.length - l.length) l
theorem OrdAt.nil (G : Gr) : OrdAt G [] := ⟨.nil, rfl⟩
theorem OrdAt.snoc {G : Gr} {l : List Nat} {i : Nat} (h : OrdAt G l) (hp : pick G l = some i) : OrdAt G (l ++ [i]) := by
  obtain ⟨h1, h2, h3⟩ := pick_some hp
  have hg := Good.snoc h.1 h1 h2 h3
  refine ⟨hg, ?_⟩
  have hl := hg.len
  simp at hl
  rw [h.2, show G.length - l.length = (G.length - (l ++ [i]).length) + 1 by simp; omega, orderF_step _ hp]
theorem OrdAt.done {G : Gr} {l : List Nat} (h : OrdAt G l) (hp : pick G l = none) : orderN G = l := by rw [h.2, orderF_stop _ hp]
/-! Ways that lead back -/
theorem Good.ways {G : Gr} {l : List Nat} (h : Good G l) : ∀ i ∈ l, ∀ j, Way G i j → j ∈ l ∧ i ≠ j := by
  induction h with
  | nil => intro i hi; cases hi
  | snoc h1 h2 h3 h4 ih =>
    rename_i l a
    have key : ∀ j, Way G a j → j ∈ l := by
      intro j w
      induction w with
      | one h => exact h4 _ h
      | more w h ih2 => exact (ih _ ih2 _ (.one h)).1
    intro i hi j w
    rcases List.mem_append.1 hi with hi | hi
    · exact ⟨List.mem_append_left _ (ih i hi j w).1, (ih i hi j w).2⟩
    · obtain rfl : i = a := by simpa using hi
      have := key j w
      exact ⟨List.mem_append_left _ this, fun e => h3 (e ▸ this)⟩
theorem full_no_loop {G : Gr} {l : List Nat} (h : Good G l) (hl : l.length = G.length) (i : Nat) : ¬ Way G i i := by
  intro w
  have hi : i < G.length := by
    cases w with
    | one h => exact row_lt h
    | more w h =>
      rename_i j
      clear h
      induction w with
      | one h => exact row_lt h
      | more _ _ ih => exact ih
  exact (h.ways i (h.full hl i hi) i w).2 rfl
open Classical in
theorem stuck_loop {G : Gr} (hG : okG G) (U : Nat → Prop) (hU : ∀ i, U i → ∃ j ∈ row G i, U j) : ∀ (m u : Nat), cnt (fun j => decide (Way G u j)) G.length ≤ m → U u → ∃ i, U i ∧ Way G i i := by
  intro m
  induction m with
  | zero =>
    intro u hm hu
    obtain ⟨v, hv, hUv⟩ := hU u hu
    have h1 := cnt_lt (p := fun _ => false) (q := fun j => decide (Way G u j)) (n := G.length) (fun _ _ h => by cases h) (hG _ _ hv) rfl (by simpa using Way.one hv)
    omega
  | succ m ih =>
    intro u hm hu
    obtain ⟨v, hv, hUv⟩ := hU u hu
    by_cases hvv : Way G v v
    · exact ⟨v, hUv, hvv⟩
    · refine ih v ?_ hUv
      have h1 := cnt_lt (p := fun j => decide (Way G v j)) (q := fun j => decide (Way G u j)) (n := G.length) (fun j _ h => by simp at h ⊢; exact Way.cons hv h) (hG _ _ hv) (by simpa using hvv) (by simpa using Way.one hv)
      omega
theorem stuck {G : Gr} (hG : okG G) {l : List Nat} (h : Good G l) (hp : pick G l = none) (hl : l.length < G.length) : ∃ i, i < G.length ∧ Way G i i := by
  have hn : ∀ i, i < G.length → i ∉ l → ∃ j ∈ row G i, j ∉ l := by
    intro i hi hil
    have h1 := List.find?_eq_none.1 hp i (List.mem_range.2 hi)
    rcases Classical.em (∃ j ∈ row G i, j ∉ l) with h2 | h2
    · exact h2
    · exact absurd (free_iff.2 ⟨hil, fun j hj => Classical.byContradiction fun h3 => h2 ⟨j, hj, h3⟩⟩) h1
  have hex : ∃ i, i < G.length ∧ i ∉ l := by
    rcases Classical.em (∃ i, i < G.length ∧ i ∉ l) with h2 | h2
    · exact h2
    · exfalso
      have h3 : cnt (fun _ => true) G.length ≤ cnt (fun i => l.contains i) G.length := cnt_mono fun i hi _ => by
        rcases Classical.em (i ∈ l) with h4 | h4
        · simpa using h4
        · exact absurd ⟨i, hi, h4⟩ h2
      have h4 : ∀ n, cnt (fun _ => true) n = n := by
        intro n; induction n with
        | zero => rfl
        | succ n ih => unfold cnt; rw [ih]; rfl
      rw [h4, h.count] at h3
      omega
  obtain ⟨u, hu⟩ := hex
  obtain ⟨i, hi, w⟩ := stuck_loop hG (fun i => i < G.length ∧ i ∉ l) (fun i hi => by
    obtain ⟨j, hj, hjl⟩ := hn i hi.1 hi.2
    exact ⟨j, hj, hG _ _ hj, hjl⟩) _ u (Nat.le_refl _) hu
  exact ⟨i, hi.1, w⟩
/-- The order tells all if and only if no way leads back. -/
theorem order_full_iff {G : Gr} (hG : okG G) : (orderN G).length = G.length ↔ ¬ ∃ i, i < G.length ∧ Way G i i := by
  constructor
  · rintro h ⟨i, _, w⟩
    exact full_no_loop (orderN_good G) h i w
  · intro h
    have h1 := (orderN_good G).len
    rcases Nat.lt_or_ge (orderN G).length G.length with h2 | h2
    · exact absurd (stuck hG (orderN_good G) (orderN_end G) h2) h
    · omega
end Go.Proofs.YtignndcjblfocaaDoor.GraphPlain
