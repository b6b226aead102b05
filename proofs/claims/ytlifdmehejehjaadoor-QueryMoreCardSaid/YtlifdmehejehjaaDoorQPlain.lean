/- Steps and paths: which steps take which names. Plain lists and truths; no program in sight. -/
import Derived.Test.YtlifdmehejehjaaDoorProg
namespace Go.Proofs.YtlifdmehejehjaaDoor.QPlain
structure StN where
  any : Bool
  deep : Bool
  nm : ByteArray
def stZ : StN := ⟨false, false, ⟨#[]⟩⟩
def dpN (l : List StN) (i : Nat) : Bool := (l.getD i stZ).deep
/-- Does a step take a name: the reference's word, and the program's. -/
def tkR (s : StN) (p : ByteArray) : Bool := s.any || decide (s.nm = p)
def tkP (s : StN) (p : ByteArray) : Bool := s.any || s.deep || decide (s.nm = p)
def rowM (dp : Bool) (tk : Nat → Bool) (prev : Nat → Bool) : Nat → Bool
  | 0 => dp && prev 0
  | k + 1 => if dp then prev (k + 1) || rowM dp tk prev k else prev k && tk k
/-- Do so many steps take so many names? -/
def mtN (l : List StN) (path : List ByteArray) : Nat → Nat → Bool
  | 0 => fun k => k == 0
  | i + 1 => rowM (dpN l i) (fun k => tkR (l.getD i stZ) (path.getD k ⟨#[]⟩)) (mtN l path i)
def matchN (l : List StN) (path : List ByteArray) : Bool := decide (l.length ≤ 64) && mtN l path l.length path.length
/-- The program's marks. -/
def ps (ls : List Int) (j : Nat) : Bool := decide (0 < ls.getD j 0)
def restF (dp : Nat → Bool) : Nat → List Int → List Int
  | 0, ls => ls
  | k + 1, ls => if ps (restF dp k ls) k && dp k then (restF dp k ls).set (k + 1) ((restF dp k ls).getD (k + 1) 0 + 1) else restF dp k ls
def nextF (dp tk : Nat → Bool) (rs : List Int) : Nat → List Int
  | 0 => List.replicate 65 0
  | k + 1 => if ps rs k && tk k then (nextF dp tk rs k).set (if dp k then k else k + 1) 1 else nextF dp tk rs k
def reachF (l : List StN) (path : List ByteArray) : Nat → List Int
  | 0 => restF (dpN l) l.length ((List.replicate 65 0).set 0 1)
  | m + 1 => restF (dpN l) l.length (nextF (dpN l) (fun i => tkP (l.getD i stZ) (path.getD m ⟨#[]⟩)) (reachF l path m) l.length)
theorem restF_succ (dp : Nat → Bool) (k : Nat) (ls : List Int) : restF dp (k + 1) ls = if ps (restF dp k ls) k && dp k then (restF dp k ls).set (k + 1) ((restF dp k ls).getD (k + 1) 0 + 1) else restF dp k ls := rfl
theorem nextF_succ (dp tk : Nat → Bool) (rs : List Int) (k : Nat) : nextF dp tk rs (k + 1) = if ps rs k && tk k then (nextF dp tk rs k).set (if dp k then k else k + 1) 1 else nextF dp tk rs k := rfl
theorem restF_len (dp : Nat → Bool) (k : Nat) (ls : List Int) : (restF dp k ls).length = ls.length := by
  induction k with
  | zero => rfl
  | succ k ih => rw [restF_succ]; split <;> simp [ih]
theorem nextF_len (dp tk : Nat → Bool) (rs : List Int) (k : Nat) : (nextF dp tk rs k).length = 65 := by
  induction k with
  | zero => simp [nextF]
  | succ k ih => rw [nextF_succ]; split <;> simp [ih]
theorem reachF_len (l : List StN) (path : List ByteArray) (m : Nat) : (reachF l path m).length = 65 := by
  cases m with
  | zero => unfold reachF; rw [restF_len]; simp
  | succ m => unfold reachF; rw [restF_len, nextF_len]
theorem getD_set (ls : List Int) (i j : Nat) (v : Int) : (ls.set i v).getD j 0 = if j = i ∧ i < ls.length then v else ls.getD j 0 := by
  simp only [List.getD_eq_getElem?_getD, List.getElem?_set]
  by_cases h : i = j
  · subst h
    by_cases h2 : i < ls.length
    · simp [h2]
    · simp [h2]
  · rw [if_neg h, if_neg (fun h2 => h h2.1.symm)]
/-- Marks between 0 and b. -/
def Bd (b : Int) (ls : List Int) : Prop := ∀ j, 0 ≤ ls.getD j 0 ∧ ls.getD j 0 ≤ b
theorem restF_far (dp : Nat → Bool) (k : Nat) (ls : List Int) (j : Nat) (h : k < j) : (restF dp k ls).getD j 0 = ls.getD j 0 := by
  induction k with
  | zero => rfl
  | succ k ih =>
    rw [restF_succ]
    split
    · rw [getD_set, if_neg (by omega)]; exact ih (by omega)
    · exact ih (by omega)
theorem restF_bd (dp : Nat → Bool) (k : Nat) (ls : List Int) (h : Bd 1 ls) : Bd 2 (restF dp k ls) := by
  induction k with
  | zero => intro j; have := h j; exact ⟨this.1, by simp only [restF]; omega⟩
  | succ k ih =>
    intro j
    have h1 := ih j
    rw [restF_succ]
    split
    · rw [getD_set]
      split
      · rw [restF_far dp k ls (k + 1) (by omega)]
        have := h (k + 1)
        omega
      · exact h1
    · exact h1
theorem nextF_bd (dp tk : Nat → Bool) (rs : List Int) (k : Nat) : Bd 1 (nextF dp tk rs k) := by
  induction k with
  | zero => intro j; unfold nextF; simp only [List.getD_eq_getElem?_getD, List.getElem?_replicate]; split <;> simp
  | succ k ih =>
    intro j
    rw [nextF_succ]
    split
    · rw [getD_set]
      by_cases hj : j = (if dp k then k else k + 1) ∧ (if dp k then k else k + 1) < (nextF dp tk rs k).length
      · rw [if_pos hj]; omega
      · rw [if_neg hj]; exact ih j
    · exact ih j
theorem start_bd : Bd 1 ((List.replicate 65 (0 : Int)).set 0 1) := by
  intro j
  rw [getD_set]
  split
  · omega
  · simp only [List.getD_eq_getElem?_getD, List.getElem?_replicate]; split <;> simp
theorem reachF_bd (l : List StN) (path : List ByteArray) (m : Nat) : Bd 2 (reachF l path m) := by
  cases m with
  | zero => exact restF_bd _ _ _ start_bd
  | succ m => exact restF_bd _ _ _ (nextF_bd _ _ _ _)
/-- The closure that rest makes. -/
def clF (dp R : Nat → Bool) : Nat → Bool
  | 0 => R 0
  | j + 1 => R (j + 1) || (clF dp R j && dp j)
theorem restF_cl (dp : Nat → Bool) (k : Nat) (ls : List Int) (h : Bd 1 ls) (hk : k < ls.length) (j : Nat) (hj : j ≤ k) : ps (restF dp k ls) j = clF dp (ps ls) j := by
  induction k generalizing j with
  | zero => obtain rfl : j = 0 := (by omega); exact rfl
  | succ k ih =>
    have hfar := restF_far dp k ls (k + 1) (by omega)
    have hb := h (k + 1)
    rcases Nat.lt_or_eq_of_le hj with hlt | rfl
    · rw [← ih (by omega) j (by omega)]
      unfold ps
      rw [restF_succ]
      split
      · rw [getD_set, if_neg (by omega)]
      · rfl
    · rw [show clF dp (ps ls) (k + 1) = (ps ls (k + 1) || (clF dp (ps ls) k && dp k)) from rfl, ← ih (by omega) k (Nat.le_refl _)]
      rw [restF_succ]
      cases hc : ps (restF dp k ls) k && dp k with
      | true =>
        rw [if_pos rfl]
        unfold ps
        rw [getD_set, if_pos ⟨rfl, by rw [restF_len]; exact hk⟩, hfar, Bool.or_true, decide_eq_true_eq]
        omega
      | false =>
        rw [if_neg (by simp), Bool.or_false]
        unfold ps
        rw [hfar]
theorem nextF_ps (dp tk : Nat → Bool) (rs : List Int) (k : Nat) (hk : k ≤ 64) (j : Nat) : ps (nextF dp tk rs k) j = true ↔ ∃ i, i < k ∧ (ps rs i && tk i) = true ∧ j = if dp i then i else i + 1 := by
  induction k with
  | zero =>
    constructor
    · intro h
      unfold ps nextF at h
      simp only [List.getD_eq_getElem?_getD, List.getElem?_replicate, decide_eq_true_eq] at h
      split at h <;> simp at h
    · rintro ⟨i, hi, _⟩; omega
  | succ k ih =>
    have ih := ih (by omega)
    rw [nextF_succ]
    cases hc : ps rs k && tk k with
    | true =>
      rw [if_pos rfl]
      have hl : (if dp k then k else k + 1) < 65 := by split <;> omega
      unfold ps at ih ⊢
      rw [getD_set]
      by_cases hj : j = if dp k then k else k + 1
      · rw [if_pos ⟨hj, by rw [nextF_len]; exact hl⟩]
        exact ⟨fun _ => ⟨k, by omega, hc, hj⟩, fun _ => by simp⟩
      · rw [if_neg (fun h => hj h.1), ih]
        constructor
        · rintro ⟨i, h1, h2, h3⟩; exact ⟨i, by omega, h2, h3⟩
        · rintro ⟨i, h1, h2, h3⟩
          rcases Nat.lt_or_eq_of_le (Nat.lt_succ_iff.1 h1) with h4 | rfl
          · exact ⟨i, h4, h2, h3⟩
          · exact absurd h3 hj
    | false =>
      rw [if_neg (by simp), ih]
      constructor
      · rintro ⟨i, h1, h2, h3⟩; exact ⟨i, by omega, h2, h3⟩
      · rintro ⟨i, h1, h2, h3⟩
        rcases Nat.lt_or_eq_of_le (Nat.lt_succ_iff.1 h1) with h4 | rfl
        · exact ⟨i, h4, h2, h3⟩
        · rw [hc] at h2; cases h2
/-- What the program's marks mean. -/
def qN (l : List StN) (path : List ByteArray) (j m : Nat) : Bool := if dpN l j then mtN l path (j + 1) m else mtN l path j m
theorem mt_deep {l : List StN} {path : List ByteArray} {i : Nat} (h : dpN l i = true) (m : Nat) : mtN l path (i + 1) (m + 1) = (mtN l path i (m + 1) || mtN l path (i + 1) m) := by
  show rowM _ _ _ _ = (_ || rowM _ _ _ _)
  rw [rowM, h, if_pos rfl]
theorem mt_flat {l : List StN} {path : List ByteArray} {i : Nat} (h : dpN l i = false) (m : Nat) : mtN l path (i + 1) (m + 1) = (mtN l path i m && tkR (l.getD i stZ) (path.getD m ⟨#[]⟩)) := by
  show rowM _ _ _ _ = _
  rw [rowM, h, if_neg (by simp)]
theorem mt_zero {l : List StN} {path : List ByteArray} (i : Nat) : mtN l path (i + 1) 0 = (dpN l i && mtN l path i 0) := rfl
theorem tkP_flat {s : StN} (h : s.deep = false) (p : ByteArray) : tkP s p = tkR s p := by unfold tkP tkR; rw [h, Bool.or_false]
theorem tkP_deep {s : StN} (h : s.deep = true) (p : ByteArray) : tkP s p = true := by unfold tkP; rw [h, Bool.or_true]; rfl
/-- From a mark one further: what comes in. -/
theorem q_in (l : List StN) (path : List ByteArray) (j m : Nat) : mtN l path (j + 1) (m + 1) = ((dpN l j && qN l path j (m + 1)) || (!dpN l j && qN l path j m && tkP (l.getD j stZ) (path.getD m ⟨#[]⟩))) := by
  unfold qN
  cases h : dpN l j with
  | true => simp
  | false => rw [mt_flat h m, tkP_flat (show (l.getD j stZ).deep = false from h)]; rfl
theorem reach_q (l : List StN) (path : List ByteArray) (hl : l.length ≤ 64) (m : Nat) : ∀ j, j ≤ l.length → ps (reachF l path m) j = qN l path j m := by
  have hend : ∀ j, l.length ≤ j → dpN l j = false := fun j hj => by unfold dpN; rw [List.getD_eq_getElem?_getD, List.getElem?_eq_none hj]; rfl
  induction m with
  | zero =>
    intro j hj
    unfold reachF
    rw [restF_cl _ _ _ start_bd (by simp; omega) j hj]
    induction j with
    | zero =>
      show ps _ 0 = _
      unfold qN
      rw [mt_zero]
      have : ps ((List.replicate 65 (0 : Int)).set 0 1) 0 = true := by decide
      rw [this]
      cases dpN l 0 <;> rfl
    | succ j ih =>
      show (ps _ (j + 1) || (clF _ _ j && dpN l j)) = _
      have h0 : ps ((List.replicate 65 (0 : Int)).set 0 1) (j + 1) = false := by
        unfold ps
        rw [getD_set, if_neg (by omega)]
        simp only [List.getD_eq_getElem?_getD, List.getElem?_replicate]
        split <;> simp
      rw [h0, ih (by omega), Bool.false_or]
      unfold qN
      rw [mt_zero (j + 1), mt_zero j]
      cases dpN l j <;> cases dpN l (j + 1) <;> simp
  | succ m ihm =>
    intro j hj
    unfold reachF
    rw [restF_cl _ _ _ (nextF_bd _ _ _ _) (by rw [nextF_len]; omega) j hj]
    have hn : ∀ j, j ≤ l.length → ps (nextF (dpN l) (fun i => tkP (l.getD i stZ) (path.getD m ⟨#[]⟩)) (reachF l path m) l.length) j =
        ((dpN l j && qN l path j m) || (decide (0 < j) && !dpN l (j - 1) && qN l path (j - 1) m && tkP (l.getD (j - 1) stZ) (path.getD m ⟨#[]⟩))) := by
      intro j hj
      rw [Bool.eq_iff_iff, nextF_ps _ _ _ _ hl]
      constructor
      · rintro ⟨i, hi, h1, h2⟩
        rw [Bool.and_eq_true, ihm i (by omega)] at h1
        cases hd : dpN l i with
        | true =>
          rw [hd, if_pos rfl] at h2
          subst h2
          rw [hd, h1.1]; rfl
        | false =>
          rw [hd, if_neg (by simp)] at h2
          subst h2
          rw [Nat.add_sub_cancel, hd, h1.1, h1.2]
          simp
      · intro h
        rw [Bool.or_eq_true] at h
        rcases h with h | h
        · rw [Bool.and_eq_true] at h
          have hlt : j < l.length := by
            rcases Nat.lt_or_ge j l.length with h1 | h1
            · exact h1
            · rw [hend j h1] at h; cases h.1
          refine ⟨j, hlt, ?_, by rw [h.1, if_pos rfl]⟩
          rw [ihm j (by omega), h.2, Bool.true_and]
          exact tkP_deep h.1 _
        · simp only [Bool.and_eq_true, decide_eq_true_eq, Bool.not_eq_true'] at h
          obtain ⟨⟨⟨h1, h2⟩, h3⟩, h4⟩ := h
          refine ⟨j - 1, by omega, ?_, ?_⟩
          · rw [ihm (j - 1) (by omega), h3]; exact h4
          · rw [h2, if_neg (by simp)]; omega
    induction j with
    | zero =>
      show ps _ 0 = _
      rw [hn 0 (by omega)]
      unfold qN
      cases h : dpN l 0 with
      | true => rw [mt_deep h m]; simp [mtN]
      | false => simp [mtN]
    | succ j ih =>
      show (ps _ (j + 1) || (clF _ _ j && dpN l j)) = _
      rw [hn (j + 1) hj, ih (by omega), Nat.add_sub_cancel]
      have hq := q_in l path j m
      unfold qN at hq ⊢
      cases h1 : dpN l (j + 1) with
      | true =>
        rw [if_pos rfl, if_pos rfl, mt_deep h1 m, hq]
        cases h2 : dpN l j with
        | true => simp [Bool.or_comm]
        | false => simp [Bool.or_comm]
      | false =>
        rw [if_neg (by simp), hq]
        cases h2 : dpN l j with
        | true => simp
        | false => simp
theorem reach_match (l : List StN) (path : List ByteArray) (hl : l.length ≤ 64) : ps (reachF l path path.length) l.length = matchN l path := by
  rw [reach_q l path hl _ _ (Nat.le_refl _)]
  unfold qN matchN
  rw [if_neg (by unfold dpN; rw [List.getD_eq_getElem?_getD, List.getElem?_eq_none (Nat.le_refl _)]; simp [stZ]), decide_eq_true hl, Bool.true_and]
end Go.Proofs.YtlifdmehejehjaaDoor.QPlain
