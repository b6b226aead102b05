/- A deep step in the place of another one takes all that was taken; one alone takes all. Plain lists; no program in sight. -/
import Derived.Test.YtlifdmehejehjaaDoorQFind
namespace Go.Proofs.YtlifdmehejehjaaDoor
open Go.Proofs.YtlifdmehejehjaaDoor.QPlain
def stD : StN := ⟨false, true, ⟨#[]⟩⟩
theorem rowM_mono (dp : Bool) (tk p q : Nat → Bool) (h : ∀ k, p k = true → q k = true) (k : Nat) : rowM dp tk p k = true → rowM dp tk q k = true := by
  induction k with
  | zero => simp only [rowM, Bool.and_eq_true]; exact fun ⟨a, b⟩ => ⟨a, h _ b⟩
  | succ k ih =>
    simp only [rowM]
    cases dp with
    | true => simp only [if_true, Bool.or_eq_true]; exact fun h1 => h1.elim (fun h1 => .inl (h _ h1)) (fun h1 => .inr (ih h1))
    | false => simp only [Bool.false_eq_true, if_false, Bool.and_eq_true]; exact fun ⟨a, b⟩ => ⟨h _ a, b⟩
theorem rowM_deep_of (tk q : Nat → Bool) (k : Nat) (h : q k = true) : rowM true tk q k = true := by
  cases k with
  | zero => simp [rowM, h]
  | succ k => simp [rowM, h]
theorem rowM_deep (dp : Bool) (tk tk' p q : Nat → Bool) (h : ∀ k, p k = true → q k = true) (k : Nat) : rowM dp tk p k = true → rowM true tk' q k = true := by
  induction k with
  | zero =>
    intro h1
    simp only [rowM, Bool.and_eq_true] at h1
    simp [rowM, h _ h1.2]
  | succ k ih =>
    cases dp with
    | true => simp only [rowM, if_true, Bool.or_eq_true]; exact fun h1 => h1.elim (fun h1 => .inl (h _ h1)) (fun h1 => .inr (ih h1))
    | false =>
      intro h1
      simp only [rowM, Bool.false_eq_true, if_false, Bool.and_eq_true] at h1
      simp only [rowM, if_true, Bool.or_eq_true]
      exact .inr (rowM_deep_of _ _ _ (h _ h1.1))
theorem mtN_more (l : List StN) (path : List ByteArray) (j i : Nat) (hi : i ≤ l.length) (k : Nat) : mtN l path i k = true → mtN (l.set j stD) path i k = true := by
  induction i generalizing k with
  | zero => exact fun h => h
  | succ i ih =>
    have ih := ih (by omega)
    show rowM _ _ _ k = true → rowM _ _ _ k = true
    by_cases hj : i = j
    · subst hj
      have e : dpN (l.set i stD) i = true := by unfold dpN; rw [List.getD_eq_getElem?_getD, List.getElem?_set]; simp [show i < l.length by omega, stD]
      rw [e]
      exact rowM_deep _ _ _ _ _ ih k
    · have e : (l.set j stD).getD i stZ = l.getD i stZ := by rw [List.getD_eq_getElem?_getD, List.getElem?_set, if_neg (fun h => hj h.symm), List.getD_eq_getElem?_getD]
      have e2 : dpN (l.set j stD) i = dpN l i := by unfold dpN; rw [e]
      rw [e, e2]
      exact rowM_mono _ _ _ _ ih k
theorem match_more (l : List StN) (path : List ByteArray) (j : Nat) (h : matchN l path = true) : matchN (l.set j stD) path = true := by
  unfold matchN at h ⊢
  rw [Bool.and_eq_true] at h ⊢
  rw [List.length_set]
  exact ⟨h.1, mtN_more l path j _ (Nat.le_refl _) _ h.2⟩
theorem hit_more (l : List Ev) (st : List StN) (j k : Nat) (h : hitQ l st k = true) : hitQ l (st.set j stD) k = true := by
  unfold hitQ at h ⊢
  cases hx : l[k]? with
  | none => rw [hx] at h; exact h
  | some e => rw [hx] at h; rw [Bool.and_eq_true] at h ⊢; exact ⟨h.1, match_more _ _ _ h.2⟩
theorem find_more (l : List Ev) (st : List StN) (j n : Nat) (x : Int) (h : x ∈ qfindK l st n) : x ∈ qfindK l (st.set j stD) n := by
  unfold qfindK at h ⊢
  rw [List.mem_map] at h ⊢
  obtain ⟨k, hk, rfl⟩ := h
  rw [List.mem_filter] at hk
  exact ⟨k, List.mem_filter.2 ⟨hk.1, hit_more _ _ _ _ hk.2⟩, rfl⟩
theorem deep_all (path : List ByteArray) : matchN [stD] path = true := by
  unfold matchN
  have h : ∀ k, rowM true (fun k => tkR (List.getD [stD] 0 stZ) (path.getD k ⟨#[]⟩)) (fun k => k == 0) k = true := by
    intro k
    induction k with
    | zero => rfl
    | succ k ih => simp only [rowM, if_true, ih, Bool.or_true]
  exact h _
def startsN (l : List Ev) (k : Nat) : Nat := ((List.range k).filter fun i => match l[i]? with | some e => decide (e.k = 1) | none => false).length
theorem starts_succ (l : List Ev) (k : Nat) (e : Ev) (hx : l[k]? = some e) : startsN l (k + 1) = startsN l k + if e.k = 1 then 1 else 0 := by
  unfold startsN
  rw [List.range_succ, List.filter_append, List.length_append]
  congr 1
  rw [List.filter_cons, hx]
  by_cases h : e.k = 1 <;> simp [h]
theorem starts_le (l : List Ev) (k : Nat) : startsN l k ≤ k := by
  have := List.length_filter_le (fun i => match l[i]? with | some e => decide (e.k = 1) | none => false) (List.range k)
  rwa [List.length_range] at this
theorem deep_len (l : List Ev) (n : Nat) : (qfindK l [stD] n).length = startsN l n := by
  unfold qfindK startsN
  rw [List.length_map]
  congr 2
  funext k
  unfold hitQ
  cases l[k]? with
  | none => rfl
  | some e => simp [deep_all]
def memK (b : List Int) (x : Int) (k : Nat) : Bool := (b.take k).any (fun y => decide (y = x))
theorem memK_succ (b : List Int) (x y : Int) (k : Nat) (h : b[k]? = some y) : memK b x (k + 1) = (memK b x k || decide (y = x)) := by
  unfold memK; rw [List.take_add_one, h, List.any_append]; simp
theorem memK_in (b : List Int) (x : Int) (h : x ∈ b) : memK b x b.length = true := by
  unfold memK; rw [List.take_length, List.any_eq_true]; exact ⟨x, h, by simp⟩
end Go.Proofs.YtlifdmehejehjaaDoor
