/- Plain facts on identifiers (no program in sight): bytes that may stand, escapes, paths without dots. -/
import Derived.Test.YtkneafpmgbgalaaGreatDoorPlainA
import Derived.Lib.IndexMore
import Derived.Lib.IndexLaws
import Derived.Lib.IndexBytes
import Derived.Lib.Split
import Derived.Lib.SplitLaws
import Derived.Lib.Join
import Derived.Lib.Case
import Derived.Lib.Strings
namespace Go.Proofs.YtkneafpmgbgalaaGreatDoor.UriPlain
open Go.Proofs.YtkneafpmgbgalaaGreatDoor.CharsPlain
def letN (n : Int) : Bool := decide (97 ≤ n ∧ n ≤ 122 ∨ 65 ≤ n ∧ n ≤ 90)
def amI (some : List UInt8) (n : Int) : Bool := letN n || decide (48 ≤ n ∧ n ≤ 57) || some.contains n.toNat.toUInt8
def amU (some : List UInt8) (c : UInt8) : Bool := amI some c.toNat
def allU (some l : List UInt8) : Bool := l.all (amU some) && !l.isEmpty
def plainS : List UInt8 := [45, 46, 95, 126]
def signsS : List UInt8 := [45, 46, 95, 126, 33, 36, 38, 39, 40, 41, 42, 43, 44, 59, 61, 58, 64, 47]
def hexU (c : UInt8) : Int := digit c.toNat 16
def hexS : List UInt8 := [48, 49, 50, 51, 52, 53, 54, 55, 56, 57, 65, 66, 67, 68, 69, 70]
/-- What an escape of two digits becomes. -/
def escD (x y : Int) : List UInt8 := if amI plainS (16 * x + y) then [(16 * x + y).toNat.toUInt8] else [37, hexS.getD x.toNat 0, hexS.getD y.toNat 0]
/-- A path, decoded; none: it is none. -/
def decP : List UInt8 → Option (List UInt8)
  | [] => some []
  | [c] => if c = 37 then none else if amU signsS c then some [c] else none
  | [c, d] => if c = 37 then none else if amU signsS c then (decP [d]).map (c :: ·) else none
  | c :: d :: e :: r => if c = 37 then (if hexU d < 0 ∨ hexU e < 0 then none else (decP r).map (escD (hexU d) (hexU e) ++ ·)) else if amU signsS c then (decP (d :: e :: r)).map (c :: ·) else none
theorem indexByte_mem (l : List UInt8) (c : UInt8) : decide (0 ≤ Lib.indexByte l c) = l.contains c := by
  induction l with
  | nil => rfl
  | cons b l ih =>
    unfold Lib.indexByte
    have hg := Lib.indexByte_ge l c
    by_cases hb : b = c
    · subst hb; simp
    · have h1 : (b == c) = false := by simpa using hb
      rw [h1]
      by_cases h2 : Lib.indexByte l c = -1
      · rw [h2] at ih
        simp only [Bool.false_eq_true, if_false, h2, beq_self_eq_true, if_true]
        rw [List.contains_cons, ← ih]
        have : (c == b) = false := by simpa using fun h => hb h.symm
        simp [this]
      · have h3 : (Lib.indexByte l c == -1) = false := by simpa using h2
        rw [h3]
        simp only [Bool.false_eq_true, if_false]
        rw [List.contains_cons, ← ih]
        have : (c == b) = false := by simpa using fun h => hb h.symm
        rw [this]
        simp; omega
def splitS : List UInt8 → List (List UInt8)
  | [] => [[]]
  | c :: r => if c = 47 then [] :: splitS r else match splitS r with | [] => [[c]] | p :: ps => (c :: p) :: ps
def joinS : List (List UInt8) → List UInt8
  | [] => []
  | [p] => p
  | p :: q :: ps => p ++ 47 :: joinS (q :: ps)
def stepD (st : List (List UInt8)) (p : List UInt8) : List (List UInt8) := if p = [46, 46] then st.dropLast else if p = [46] then st else st ++ [p]
def stackD (ps : List (List UInt8)) : List (List UInt8) := ps.foldl stepD []
def dotty (p : List UInt8) : Bool := decide (p = [46] ∨ p = [46, 46])
def openD (ps : List (List UInt8)) : Bool := dotty (ps.getLastD [46])
def trimS : List UInt8 → List UInt8
  | [] => []
  | c :: r => if c = 47 then r else c :: r
def textD (ps : List (List UInt8)) : List UInt8 := 47 :: joinS (stackD ps) ++ (if openD ps && !(stackD ps).isEmpty then [47] else [])
def dotsL (l : List UInt8) : List UInt8 := textD (splitS (trimS l))
theorem splitS_ne (l : List UInt8) : splitS l ≠ [] := by
  cases l with
  | nil => simp [splitS]
  | cons c r =>
    unfold splitS
    split
    · simp
    · split <;> simp
theorem splitS_app (a b : List UInt8) : splitS (a ++ 47 :: b) = splitS a ++ splitS b := by
  induction a with
  | nil => simp [splitS]
  | cons c r ih =>
    simp only [List.cons_append, splitS]
    by_cases h : c = 47
    · simp [h, ih]
    · simp only [h, if_false, ih]
      cases hr : splitS r with
      | nil => exact absurd hr (splitS_ne r)
      | cons p ps => simp
theorem splitS_clean (p : List UInt8) (h : 47 ∉ p) : splitS p = [p] := by
  induction p with
  | nil => rfl
  | cons c r ih =>
    have h1 : c ≠ 47 := fun e => h (by simp [e])
    have h2 := ih (fun m => h (by simp [m]))
    simp [splitS, h1, h2]
theorem splitS_mem (l : List UInt8) : ∀ p ∈ splitS l, 47 ∉ p := by
  induction l with
  | nil => intro p hp; simp [splitS] at hp; simp [hp]
  | cons c r ih =>
    intro p hp
    unfold splitS at hp
    by_cases h : c = 47
    · simp only [h, if_true, List.mem_cons] at hp
      rcases hp with rfl | hp
      · simp
      · exact ih p hp
    · simp only [h, if_false] at hp
      cases hr : splitS r with
      | nil => exact absurd hr (splitS_ne r)
      | cons q ps =>
        rw [hr] at hp ih
        simp only [List.mem_cons] at hp
        rcases hp with rfl | hp
        · have := ih q (by simp)
          simp [this]; exact fun e => h e.symm
        · exact ih p (by simp [hp])
theorem splitS_join (ps : List (List UInt8)) (hn : ps ≠ []) (h : ∀ p ∈ ps, 47 ∉ p) : splitS (joinS ps) = ps := by
  induction ps with
  | nil => exact absurd rfl hn
  | cons p qs ih =>
    cases qs with
    | nil => exact splitS_clean p (h p (by simp))
    | cons q qs =>
      simp only [joinS]
      rw [splitS_app, splitS_clean p (h p (by simp)), ih (by simp) (fun x hx => h x (by simp [hx]))]
      rfl
theorem joinS_snoc (ps : List (List UInt8)) (hn : ps ≠ []) (q : List UInt8) : joinS (ps ++ [q]) = joinS ps ++ 47 :: q := by
  induction ps with
  | nil => exact absurd rfl hn
  | cons p qs ih =>
    cases qs with
    | nil => rfl
    | cons r qs => simp only [List.cons_append, joinS] at *; rw [ih (by simp)]; simp
theorem stepD_mem (Q : List UInt8 → Prop) (st : List (List UInt8)) (p : List UInt8) (h : ∀ q ∈ st, Q q ∧ dotty q = false) (hp : Q p) : ∀ q ∈ stepD st p, Q q ∧ dotty q = false := by
  intro q hq
  unfold stepD at hq
  split at hq
  · exact h q (List.dropLast_subset _ hq)
  · split at hq
    · exact h q hq
    · rename_i h1 h2
      rcases List.mem_append.1 hq with hq | hq
      · exact h q hq
      · simp at hq; subst hq; exact ⟨hp, by simp [dotty, h1, h2]⟩
theorem stack_mem (Q : List UInt8 → Prop) (ps st : List (List UInt8)) (h : ∀ q ∈ st, Q q ∧ dotty q = false) (hp : ∀ p ∈ ps, Q p) : ∀ q ∈ ps.foldl stepD st, Q q ∧ dotty q = false := by
  induction ps generalizing st with
  | nil => simpa using h
  | cons p ps ih => exact ih _ (stepD_mem Q st p h (hp p (by simp))) (fun x hx => hp x (by simp [hx]))
theorem stackD_mem (Q : List UInt8 → Prop) (ps : List (List UInt8)) (hp : ∀ p ∈ ps, Q p) : ∀ q ∈ stackD ps, Q q ∧ dotty q = false := stack_mem Q ps [] (by simp) hp
theorem stack_clean (ps st : List (List UInt8)) (h : ∀ q ∈ ps, dotty q = false) : ps.foldl stepD st = st ++ ps := by
  induction ps generalizing st with
  | nil => simp
  | cons p ps ih =>
    have hp := h p (by simp)
    simp [dotty] at hp
    rw [List.foldl_cons, ih _ (fun x hx => h x (by simp [hx]))]
    simp [stepD, hp.1, hp.2]
/-- The steps of a path without steps that go nowhere. -/
def partsD (ps : List (List UInt8)) : List (List UInt8) := if (stackD ps).isEmpty then [[]] else stackD ps ++ (if openD ps then [[]] else [])
theorem textD_trim (ps : List (List UInt8)) : trimS (textD ps) = joinS (partsD ps) := by
  unfold textD partsD
  simp only [trimS, List.cons_append, if_true]
  cases hs : stackD ps with
  | nil => simp [joinS]
  | cons p qs =>
    by_cases ho : openD ps = true
    · simp only [ho, List.isEmpty_cons, Bool.not_false, Bool.and_self, if_true, Bool.false_eq_true, if_false]
      rw [joinS_snoc _ (by simp)]
    · simp [ho]
theorem partsD_ne (ps : List (List UInt8)) : partsD ps ≠ [] := by
  unfold partsD
  split
  · simp
  · rename_i h
    cases hs : stackD ps with
    | nil => simp [hs] at h
    | cons p q => simp
theorem partsD_mem (Q : List UInt8 → Prop) (ps : List (List UInt8)) (h0 : Q []) (hp : ∀ p ∈ ps, Q p) : ∀ q ∈ partsD ps, Q q ∧ dotty q = false := by
  intro q hq
  unfold partsD at hq
  split at hq
  · simp at hq; subst hq; exact ⟨h0, rfl⟩
  · rcases List.mem_append.1 hq with hq | hq
    · exact stackD_mem Q ps hp q hq
    · split at hq
      · simp at hq; subst hq; exact ⟨h0, rfl⟩
      · simp at hq
theorem dots_parts (l : List UInt8) : splitS (trimS (dotsL l)) = partsD (splitS (trimS l)) := by
  unfold dotsL
  rw [textD_trim, splitS_join _ (partsD_ne _)]
  exact fun p hp => (partsD_mem (fun p => 47 ∉ p) _ (by simp) (splitS_mem _) p hp).1
theorem dots_none (l : List UInt8) : ∀ p ∈ splitS (trimS (dotsL l)), dotty p = false := by
  rw [dots_parts]
  exact fun p hp => (partsD_mem (fun _ => True) _ trivial (fun _ _ => trivial) p hp).2
theorem textD_clean (ps : List (List UInt8)) (hn : ps ≠ []) (h : ∀ p ∈ ps, dotty p = false) : textD ps = 47 :: joinS ps := by
  have hs : stackD ps = ps := by unfold stackD; rw [stack_clean _ _ h]; rfl
  have ho : openD ps = false := by
    unfold openD
    rw [List.getLastD_eq_getLast?, List.getLast?_eq_some_getLast hn]
    exact h _ (List.getLast_mem hn)
  unfold textD
  simp [hs, ho]
theorem textD_parts (ps : List (List UInt8)) : 47 :: joinS (partsD ps) = textD ps := by
  rw [← textD_trim]
  unfold textD
  simp [trimS]
theorem dots_again (l : List UInt8) : dotsL (dotsL l) = dotsL l := by
  show textD (splitS (trimS (dotsL l))) = _
  have h := dots_none l
  rw [dots_parts] at h ⊢
  rw [textD_clean _ (partsD_ne _) h, textD_parts]
  rfl
theorem trimS_app (a b : List UInt8) : trimS (a ++ 47 :: b) = if a = [] then b else trimS a ++ 47 :: b := by
  cases a with
  | nil => simp [trimS]
  | cons c r => simp only [List.cons_append, trimS]; split <;> simp
/-- Two rows of steps that end alike. -/
theorem textD_same (ps qs : List (List UInt8)) (h : stackD ps = stackD qs) (h2 : openD ps = openD qs) : textD ps = textD qs := by
  unfold textD; rw [h, h2]
theorem steps_up (path step : List UInt8) (h : 47 ∉ step) (hd : dotty step = false) : dotsL (47 :: (path ++ 47 :: (step ++ [47, 46, 46, 47, 120]))) = dotsL (47 :: (path ++ [47, 120])) := by
  unfold dotsL
  simp only [trimS, if_true]
  have e1 : step ++ [47, 46, 46, 47, 120] = step ++ 47 :: ([46, 46] ++ 47 :: [120]) := rfl
  rw [e1, splitS_app, splitS_app, splitS_app, splitS_app path [120], splitS_clean step h, splitS_clean [46, 46] (by decide), splitS_clean [120] (by decide)]
  apply textD_same
  · unfold stackD
    simp only [List.foldl_append, List.foldl_cons, List.foldl_nil]
    congr 1
    have := hd
    simp [dotty] at this
    simp [stepD, this.1, this.2]
  · unfold openD
    simp
theorem steps_stay (path : List UInt8) : dotsL (path ++ [47, 46, 47, 120]) = dotsL (path ++ [47, 120]) := by
  unfold dotsL
  have e1 : path ++ [47, 46, 47, 120] = path ++ 47 :: ([46] ++ 47 :: [120]) := rfl
  rw [e1, trimS_app, trimS_app]
  apply textD_same
  · split
    · rw [splitS_app, splitS_clean [46] (by decide), splitS_clean [120] (by decide)]; rfl
    · rw [splitS_app, splitS_app, splitS_app, splitS_clean [46] (by decide), splitS_clean [120] (by decide)]
      unfold stackD
      simp [List.foldl_append, stepD]
  · split
    · rw [splitS_app, splitS_clean [46] (by decide), splitS_clean [120] (by decide)]; rfl
    · rw [splitS_app, splitS_app, splitS_app, splitS_clean [46] (by decide), splitS_clean [120] (by decide)]
      unfold openD
      simp
theorem joinS_size (ps : List (List UInt8)) : (joinS ps).length + 1 ≤ (ps.map (·.length + 1)).sum + 1 := by
  induction ps with
  | nil => simp [joinS]
  | cons p qs ih =>
    cases qs with
    | nil => simp [joinS]
    | cons q qs => simp only [joinS, List.length_append, List.length_cons, List.map_cons, List.sum_cons] at *; omega
theorem splitS_size (l : List UInt8) : ((splitS l).map (·.length + 1)).sum = l.length + 1 := by
  induction l with
  | nil => rfl
  | cons c r ih =>
    unfold splitS
    split
    · simp [ih]; omega
    · cases hr : splitS r with
      | nil => exact absurd hr (splitS_ne r)
      | cons p ps => rw [hr] at ih; simp at ih ⊢; omega
theorem stack_size (ps st : List (List UInt8)) : ((ps.foldl stepD st).map (·.length + 1)).sum ≤ (st.map (·.length + 1)).sum + (ps.map (·.length + 1)).sum := by
  induction ps generalizing st with
  | nil => simp
  | cons p ps ih =>
    rw [List.foldl_cons]
    have h1 := ih (stepD st p)
    have h2 : ((stepD st p).map (·.length + 1)).sum ≤ (st.map (·.length + 1)).sum + (p.length + 1) := by
      unfold stepD
      split
      · rcases List.eq_nil_or_concat st with rfl | ⟨a, b, rfl⟩
        · simp
        · simp; omega
      · split
        · omega
        · simp
    simp only [List.map_cons, List.sum_cons]
    omega
theorem dots_size (l : List UInt8) : (dotsL l).length ≤ l.length + 3 := by
  have h1 := stack_size (splitS (trimS l)) []
  have h2 := splitS_size (trimS l)
  have h3 := joinS_size (stackD (splitS (trimS l)))
  have h4 : (trimS l).length ≤ l.length := by
    cases l with
    | nil => simp [trimS]
    | cons c r => simp only [trimS]; split <;> simp
  unfold dotsL textD
  simp only [List.map_nil, List.sum_nil] at h1
  unfold stackD at h3 ⊢
  simp only [List.cons_append, List.length_cons, List.length_append]
  split <;> simp <;> omega
/-- A text in normal form: an escape only where one must stand. -/
inductive Nrm : List UInt8 → Prop
  | nil : Nrm []
  | chr (c r) : amU signsS c = true → Nrm r → Nrm (c :: r)
  | esc (x y r) : 0 ≤ hexU x → 0 ≤ hexU y → escD (hexU x) (hexU y) = [37, x, y] → Nrm r → Nrm (37 :: x :: y :: r)
theorem pct_no : amU signsS 37 = false := by decide
theorem hexU_b (c : UInt8) : -1 ≤ hexU c ∧ hexU c < 16 := by unfold hexU digit; simp only [or_true, if_true]; split <;> (try split) <;> (try split) <;> omega
theorem hexU_no47 : hexU 47 = -1 := by decide
theorem amI_mono (n : Int) (h : amI plainS n = true) : amI signsS n = true := by
  unfold amI at *
  simp only [Bool.or_eq_true] at *
  rcases h with h | h
  · exact Or.inl h
  · right
    simp only [plainS, signsS, List.contains_cons, Bool.or_eq_true] at *
    simp at *
    rcases h with h | h | h | h <;> simp [h]
theorem hexS_hex : ∀ k : Nat, k < 16 → hexU (hexS.getD k 0) = k := by decide
theorem escD_pct : ∀ x y : Nat, x < 16 → y < 16 → amI plainS (16 * (x : Int) + y) = false → escD (hexU (hexS.getD x 0)) (hexU (hexS.getD y 0)) = [37, hexS.getD x 0, hexS.getD y 0] := by
  intro x y hx hy h
  rw [hexS_hex x hx, hexS_hex y hy]
  unfold escD
  rw [if_neg (by simp [h])]
  simp
theorem Nrm.app {a b : List UInt8} (ha : Nrm a) (hb : Nrm b) : Nrm (a ++ b) := by
  induction ha with
  | nil => exact hb
  | chr c r h _ ih => exact Nrm.chr c _ h ih
  | esc x y r h1 h2 h3 _ ih => exact Nrm.esc x y _ h1 h2 h3 ih
theorem escD_nrm (x y : Int) (hx0 : 0 ≤ x) (hx : x < 16) (hy0 : 0 ≤ y) (hy : y < 16) : Nrm (escD x y) := by
  cases h : amI plainS (16 * x + y) with
  | true =>
    unfold escD
    rw [if_pos h]
    refine Nrm.chr _ _ ?_ Nrm.nil
    unfold amU
    have : ((16 * x + y).toNat.toUInt8.toNat : Int) = 16 * x + y := by
      rw [Nat.toUInt8, UInt8.toNat_ofNat']; omega
    rw [this]
    exact amI_mono _ h
  | false =>
    obtain ⟨i, rfl⟩ := Int.eq_ofNat_of_zero_le hx0
    obtain ⟨j, rfl⟩ := Int.eq_ofNat_of_zero_le hy0
    have he := escD_pct i j (by omega) (by omega) h
    have e1 : escD (i : Int) (j : Int) = [37, hexS.getD i 0, hexS.getD j 0] := by
      unfold escD
      rw [if_neg (by simp [h])]
      simp
    rw [e1]
    refine Nrm.esc _ _ _ ?_ ?_ he Nrm.nil
    · rw [hexS_hex i (by omega)]; omega
    · rw [hexS_hex j (by omega)]; omega
theorem decP_nrm (l p : List UInt8) (h : decP l = some p) : Nrm p := by
  induction l using decP.induct generalizing p with
  | case1 => simp [decP] at h; subst h; exact Nrm.nil
  | case2 => simp [decP] at h
  | case3 c h1 h2 => simp [decP, h1, h2] at h; subst h; exact Nrm.chr _ _ h2 Nrm.nil
  | case4 c h1 h2 => simp [decP, h1, h2] at h
  | case5 => simp [decP] at h
  | case6 c d h1 h2 ih =>
    simp only [decP, h1, h2, if_false, if_true] at h
    obtain ⟨q, hq, rfl⟩ := Option.map_eq_some_iff.1 h
    exact Nrm.chr _ _ h2 (ih q hq)
  | case7 c d h1 h2 => simp [decP, h1, h2] at h
  | case8 d e r h2 => simp [decP, h2] at h
  | case9 d e r h2 ih =>
    simp only [decP, h2, if_false, if_true] at h
    obtain ⟨q, hq, rfl⟩ := Option.map_eq_some_iff.1 h
    have b1 := hexU_b d
    have b2 := hexU_b e
    exact (escD_nrm _ _ (by omega) (by omega) (by omega) (by omega)).app (ih q hq)
  | case10 c d e r h1 h2 ih =>
    simp only [decP, h1, h2, if_false, if_true] at h
    obtain ⟨q, hq, rfl⟩ := Option.map_eq_some_iff.1 h
    exact Nrm.chr _ _ h2 (ih q hq)
  | case11 c d e r h1 h2 => simp [decP, h1, h2] at h
theorem decP_cons (c : UInt8) (r : List UInt8) (h1 : c ≠ 37) : decP (c :: r) = if amU signsS c then (decP r).map (c :: ·) else none := by
  match r with
  | [] => simp only [decP, h1, if_false]; split <;> simp
  | [d] => simp only [decP, h1, if_false]
  | d :: e :: r => simp only [decP, h1, if_false]
theorem decP_self (l : List UInt8) (h : Nrm l) : decP l = some l := by
  induction h with
  | nil => rfl
  | chr c r hc _ ih =>
    have h1 : c ≠ 37 := fun e => by rw [e, pct_no] at hc; simp at hc
    rw [decP_cons c r h1, if_pos hc, ih]; rfl
  | esc x y r h1 h2 h3 _ ih =>
    have : ¬ (hexU x < 0 ∨ hexU y < 0) := by omega
    simp only [decP, if_true, this, if_false, ih, h3]
    rfl
theorem Nrm.cut {l : List UInt8} (h : Nrm l) : ∀ a b, l = a ++ 47 :: b → Nrm a ∧ Nrm b := by
  induction h with
  | nil => intro a b e; simp at e
  | chr c r hc _ ih =>
    intro a b e
    cases a with
    | nil => simp at e; obtain ⟨rfl, rfl⟩ := e; exact ⟨Nrm.nil, by assumption⟩
    | cons x a =>
      simp at e
      obtain ⟨rfl, e⟩ := e
      obtain ⟨g1, g2⟩ := ih a b e
      exact ⟨Nrm.chr _ _ hc g1, g2⟩
  | esc x y r h1 h2 h3 _ ih =>
    intro a b e
    match a with
    | [] => simp at e
    | [p] => simp at e; rw [e.2.1, hexU_no47] at h1; omega
    | [p, q] => simp at e; rw [e.2.2.1, hexU_no47] at h2; omega
    | p :: q :: u :: a =>
      simp at e
      obtain ⟨rfl, rfl, rfl, e⟩ := e
      obtain ⟨g1, g2⟩ := ih a b e
      exact ⟨Nrm.esc _ _ _ h1 h2 h3 g1, g2⟩
theorem join_split (l : List UInt8) : joinS (splitS l) = l := by
  induction l with
  | nil => rfl
  | cons c r ih =>
    unfold splitS
    cases hr : splitS r with
    | nil => exact absurd hr (splitS_ne r)
    | cons p ps =>
      rw [hr] at ih
      split
      · rename_i h; subst h; simp [joinS, ih]
      · cases ps with
        | nil => simp [joinS] at ih ⊢; exact ih
        | cons q qs => simp [joinS] at ih ⊢; exact ih
theorem nrm_joinS (ps : List (List UInt8)) (h : ∀ p ∈ ps, Nrm p) : Nrm (joinS ps) := by
  induction ps with
  | nil => exact Nrm.nil
  | cons p qs ih =>
    cases qs with
    | nil => exact h p (by simp)
    | cons q qs => exact (h p (by simp)).app (Nrm.chr 47 _ (by decide) (ih (fun x hx => h x (by simp [hx]))))
theorem nrm_of_join (ps : List (List UInt8)) (h : Nrm (joinS ps)) : ∀ p ∈ ps, Nrm p := by
  induction ps with
  | nil => simp
  | cons p qs ih =>
    cases qs with
    | nil => intro x hx; simp at hx; subst hx; exact h
    | cons q qs =>
      obtain ⟨g1, g2⟩ := h.cut p (joinS (q :: qs)) rfl
      intro x hx
      rcases List.mem_cons.1 hx with rfl | hx
      · exact g1
      · exact ih g2 x hx
theorem nrm_trim (l : List UInt8) (h : Nrm l) : Nrm (trimS l) := by
  cases l with
  | nil => exact h
  | cons c r =>
    show Nrm (if c = 47 then r else c :: r)
    split
    · rename_i e; subst e; exact (h.cut [] r rfl).2
    · exact h
theorem nrm_dots (l : List UInt8) (h : Nrm l) : Nrm (dotsL l) := by
  have e : dotsL l = 47 :: joinS (partsD (splitS (trimS l))) := (textD_parts _).symm
  rw [e]
  refine Nrm.chr 47 _ (by decide) (nrm_joinS _ ?_)
  refine fun p hp => (partsD_mem Nrm _ Nrm.nil ?_ p hp).1
  apply nrm_of_join
  rw [join_split]
  exact nrm_trim l h
def sep3 : List UInt8 := [58, 47, 47]
def schS : List UInt8 := [43, 45, 46]
def hostS : List UInt8 := [45, 46, 58]
def hostU (r : List UInt8) : List UInt8 := r.takeWhile (· ≠ 47)
def pathU (r : List UInt8) : List UInt8 := r.dropWhile (· ≠ 47)
def letH : List UInt8 → Bool
  | [] => false
  | c :: _ => letN c.toNat
/-- May it be an identifier, but for its path? -/
def okU (l : List UInt8) : Bool := (Lib.cut l sep3).2.2 && allU schS (Lib.cut l sep3).1 && letH (Lib.cut l sep3).1 && allU hostS (hostU (Lib.cut l sep3).2.1)
def parseU (l : List UInt8) : Option (List UInt8 × List UInt8 × List UInt8) :=
  if okU l then (decP (pathU (Lib.cut l sep3).2.1)).map fun p => (Lib.toLowerA (Lib.cut l sep3).1, Lib.toLowerA (hostU (Lib.cut l sep3).2.1), dotsL p) else none
def textU (u : List UInt8 × List UInt8 × List UInt8) : List UInt8 := u.1 ++ sep3 ++ (u.2.1 ++ u.2.2)
theorem upper_iff (b : UInt8) : Lib.isUpperB b = true ↔ 65 ≤ b.toNat ∧ b.toNat ≤ 90 := by
  unfold Lib.isUpperB
  simp only [Bool.and_eq_true, decide_eq_true_eq, UInt8.le_iff_toNat_le]
  exact Iff.rfl
theorem lower_toNat (b : UInt8) (h : Lib.isUpperB b = true) : (b + 32).toNat = b.toNat + 32 := by
  have := (upper_iff b).1 h
  rw [UInt8.toNat_add]
  have : (32 : UInt8).toNat = 32 := rfl
  omega
theorem lower_again (b : UInt8) : Lib.lowerB (Lib.lowerB b) = Lib.lowerB b := by
  unfold Lib.lowerB
  cases h : Lib.isUpperB b with
  | false => simp [h]
  | true =>
    have h2 : Lib.isUpperB (b + 32) = false := by
      rw [Bool.eq_false_iff]
      intro h3
      have := (upper_iff _).1 h3
      rw [lower_toNat b h] at this
      have := (upper_iff b).1 h
      omega
    simp [h2]
theorem low_again (l : List UInt8) : Lib.toLowerA (Lib.toLowerA l) = Lib.toLowerA l := by
  unfold Lib.toLowerA
  rw [List.map_map]
  exact List.map_congr_left fun b _ => lower_again b
theorem lower_let (b : UInt8) (h : letN b.toNat = true) : letN (Lib.lowerB b).toNat = true := by
  unfold Lib.lowerB
  cases h1 : Lib.isUpperB b with
  | false => simpa using h
  | true =>
    simp only [if_true]
    rw [lower_toNat b h1]
    have := (upper_iff b).1 h1
    unfold letN
    simp; omega
theorem lower_am (some : List UInt8) (b : UInt8) (h : amU some b = true) : amU some (Lib.lowerB b) = true := by
  cases h1 : Lib.isUpperB b with
  | false => unfold Lib.lowerB; simpa [h1] using h
  | true =>
    have h2 := lower_let b (by have := (upper_iff b).1 h1; unfold letN; simp; omega)
    unfold amU amI
    rw [h2]; rfl
theorem low_all (some l : List UInt8) (h : allU some l = true) : allU some (Lib.toLowerA l) = true := by
  unfold allU at *
  simp only [Bool.and_eq_true, List.all_eq_true] at *
  refine ⟨?_, ?_⟩
  · intro c hc
    obtain ⟨b, hb, rfl⟩ := List.mem_map.1 hc
    exact lower_am _ _ (h.1 b hb)
  · have := h.2
    simp only [Lib.toLowerA, Bool.not_eq_true', List.isEmpty_eq_false_iff] at *
    simpa using this
theorem low_head (l : List UInt8) (h : letH l = true) : letH (Lib.toLowerA l) = true := by
  cases l with
  | nil => exact h
  | cons c r => exact lower_let c h
theorem am_no58 : amU schS 58 = false := by decide
theorem am_no47 : amU hostS 47 = false := by decide
theorem all_no (some l : List UInt8) (c : UInt8) (hc : amU some c = false) (h : allU some l = true) : c ∉ l := by
  intro hm
  unfold allU at h
  simp only [Bool.and_eq_true, List.all_eq_true] at h
  have := h.1 c hm
  rw [hc] at this; simp at this
theorem cut_at (s r : List UInt8) (h : (58 : UInt8) ∉ s) : Lib.cut (s ++ sep3 ++ r) sep3 = (s, r, true) := by
  have hi : Lib.index (s ++ sep3 ++ r) sep3 = (s.length : Nat) := by
    refine Lib.index_first (by simp) ?_ ?_
    · unfold Lib.occAt
      rw [List.append_assoc, List.drop_left]
      rfl
    · intro j hj
      unfold Lib.occAt
      rw [Bool.eq_false_iff]
      intro hp
      have hd : (s ++ sep3 ++ r).drop j = s[j] :: (s ++ sep3 ++ r).drop (j + 1) := by
        have hj2 : j < (s ++ sep3 ++ r).length := by simp; omega
        rw [List.drop_eq_getElem_cons hj2]
        congr 1
        simp [List.getElem_append_left hj]
      rw [hd] at hp
      have h58 : s[j] = 58 := by
        unfold sep3 at hp
        rw [List.isPrefixOf_cons_cons] at hp
        simp only [Bool.and_eq_true, beq_iff_eq] at hp
        exact hp.1.symm
      exact h (h58 ▸ List.getElem_mem hj)
  unfold Lib.cut
  rw [hi]
  have : (0 : Int) ≤ (s.length : Nat) := by omega
  rw [if_pos this, Int.toNat_natCast]
  simp only [List.append_assoc, List.take_left, Prod.mk.injEq, and_true, true_and]
  have : s ++ (sep3 ++ r) = (s ++ sep3) ++ r := by simp
  rw [this, ← List.length_append, List.drop_left]
theorem host_at (h p : List UInt8) (hh : (47 : UInt8) ∉ h) : hostU (h ++ 47 :: p) = h ∧ pathU (h ++ 47 :: p) = 47 :: p := by
  have g : ∀ x ∈ h, decide (x ≠ 47) = true := by
    intro x hx
    simp only [ne_eq, decide_not, Bool.not_eq_true', decide_eq_false_iff_not]
    exact fun e => hh (e ▸ hx)
  unfold hostU pathU
  constructor
  · rw [List.takeWhile_append_of_pos g]; simp
  · rw [List.dropWhile_append_of_pos g]; simp
theorem dots_head (l : List UInt8) : ∃ p, dotsL l = 47 :: p := ⟨_, (textD_parts _).symm⟩
theorem parse_again (l : List UInt8) (u : List UInt8 × List UInt8 × List UInt8) (h : parseU l = some u) : parseU (textU u) = some u := by
  unfold parseU at h
  split at h
  · rename_i hok
    obtain ⟨p, hp, rfl⟩ := Option.map_eq_some_iff.1 h
    unfold okU at hok
    simp only [Bool.and_eq_true] at hok
    obtain ⟨⟨⟨h1, h2⟩, h3⟩, h4⟩ := hok
    have L2 := low_all _ _ h2
    have L3 := low_head _ h3
    have L4 := low_all _ _ h4
    have n58 := all_no _ _ _ am_no58 L2
    have n47 := all_no _ _ _ am_no47 L4
    obtain ⟨q, hq⟩ := dots_head p
    have hd : decP (47 :: q) = some (47 :: q) := by rw [← hq]; exact decP_self _ (nrm_dots p (decP_nrm _ _ hp))
    have hc : Lib.cut (textU (Lib.toLowerA (Lib.cut l sep3).1, Lib.toLowerA (hostU (Lib.cut l sep3).2.1), dotsL p)) sep3 = (Lib.toLowerA (Lib.cut l sep3).1, Lib.toLowerA (hostU (Lib.cut l sep3).2.1) ++ 47 :: q, true) := by
      unfold textU
      rw [hq]
      exact cut_at _ _ n58
    obtain ⟨a1, a2⟩ := host_at _ q n47
    have hok2 : okU (textU (Lib.toLowerA (Lib.cut l sep3).1, Lib.toLowerA (hostU (Lib.cut l sep3).2.1), dotsL p)) = true := by
      unfold okU
      rw [hc]
      simp only [a1, L2, L3, L4, Bool.and_self]
    unfold parseU
    rw [if_pos hok2, hc]
    simp only [a1, a2, hd, low_again, Option.map_some]
    rw [← hq, dots_again]
  · simp at h
theorem escD_length (x y : Int) : (escD x y).length ≤ 3 := by unfold escD; split <;> simp
theorem decP_length (l p : List UInt8) (h : decP l = some p) : p.length ≤ l.length := by
  induction l using decP.induct generalizing p with
  | case1 => simp [decP] at h; subst h; simp
  | case2 => simp [decP] at h
  | case3 c h1 h2 => simp [decP, h1, h2] at h; subst h; simp
  | case4 c h1 h2 => simp [decP, h1, h2] at h
  | case5 => simp [decP] at h
  | case6 c d h1 h2 ih =>
    simp only [decP, h1, h2, if_false, if_true] at h
    obtain ⟨q, hq, rfl⟩ := Option.map_eq_some_iff.1 h
    have := ih q hq; simp at this ⊢; omega
  | case7 c d h1 h2 => simp [decP, h1, h2] at h
  | case8 d e r h2 => simp [decP, h2] at h
  | case9 d e r h2 ih =>
    simp only [decP, h2, if_false, if_true] at h
    obtain ⟨q, hq, rfl⟩ := Option.map_eq_some_iff.1 h
    have := ih q hq
    have := escD_length (hexU d) (hexU e)
    simp; omega
  | case10 c d e r h1 h2 ih =>
    simp only [decP, h1, h2, if_false, if_true] at h
    obtain ⟨q, hq, rfl⟩ := Option.map_eq_some_iff.1 h
    have := ih q hq; simp at this ⊢; omega
  | case11 c d e r h1 h2 => simp [decP, h1, h2] at h
theorem host_path (r : List UInt8) : hostU r ++ pathU r = r := List.takeWhile_append_dropWhile
theorem text_length (l : List UInt8) (u : List UInt8 × List UInt8 × List UInt8) (h : parseU l = some u) : (textU u).length ≤ l.length + 3 ∧ u.1.length ≤ l.length ∧ u.2.1.length ≤ l.length ∧ u.2.2.length ≤ l.length + 3 := by
  unfold parseU at h
  split at h
  · rename_i hok
    obtain ⟨p, hp, rfl⟩ := Option.map_eq_some_iff.1 h
    unfold okU at hok
    simp only [Bool.and_eq_true] at hok
    have h1 := hok.1.1.1
    have hd := dots_size p
    have hl := decP_length _ _ hp
    have hh : (hostU (Lib.cut l sep3).2.1).length + (pathU (Lib.cut l sep3).2.1).length = (Lib.cut l sep3).2.1.length := by rw [← List.length_append, host_path]
    have hc : (Lib.cut l sep3).1.length + 3 + (Lib.cut l sep3).2.1.length = l.length := by
      by_cases hi : 0 ≤ Lib.index l sep3
      · have hr := Lib.index_room l sep3 hi
        have e3 : sep3.length = 3 := rfl
        rw [e3] at hr
        unfold Lib.cut
        rw [if_pos hi]
        simp only [List.length_take, List.length_drop, e3]
        omega
      · unfold Lib.cut at h1
        rw [if_neg hi] at h1; simp at h1
    simp only [textU, List.length_append, Lib.toLowerA, List.length_map]
    have e3 : sep3.length = 3 := rfl
    rw [e3]
    omega
  · simp at h
/-- The place of the first slash, or the end. -/
theorem slash_at (r : List UInt8) (n : Int) (h : Lib.indexByte r 47 = n) : (n < 0 → hostU r = r ∧ pathU r = []) ∧ (0 ≤ n → n.toNat ≤ r.length ∧ hostU r = r.take n.toNat ∧ pathU r = r.drop n.toNat) := by
  subst h
  induction r with
  | nil => exact ⟨fun _ => ⟨rfl, rfl⟩, fun h => by simp [Lib.indexByte] at h⟩
  | cons b l ih =>
    unfold Lib.indexByte hostU pathU
    have hg := Lib.indexByte_ge l 47
    by_cases hb : b = 47
    · subst hb; simp
    · have h1 : (b == 47) = false := by simpa using hb
      rw [h1]
      by_cases h2 : Lib.indexByte l 47 = -1
      · rw [h2] at ih ⊢
        have := ih.1 (by omega)
        unfold hostU pathU at this
        simp [hb]
        simpa using this
      · have h3 : (Lib.indexByte l 47 == -1) = false := by simpa using h2
        rw [h3]
        have := ih.2 (by omega)
        unfold hostU pathU at this
        refine ⟨fun h => ?_, fun _ => ?_⟩
        · simp at h; omega
        · have e : (Lib.indexByte l 47 + 1).toNat = (Lib.indexByte l 47).toNat + 1 := by omega
          simp [hb, e]
          simpa using this
theorem join_joinS (xs : List (List UInt8)) : Lib.join xs [47] = joinS xs := by
  induction xs with
  | nil => rfl
  | cons x r ih =>
    cases r with
    | nil => exact Lib.join_one x [47]
    | cons y r => 
      unfold Lib.join at *
      rw [List.intercalate_cons_cons, ih]
      simp [joinS]
theorem splitK_splitS (s : List UInt8) : Lib.splitK [47] 0 (Lib.count s [47]) s = splitS s := by
  induction s with
  | nil => rfl
  | cons b l ih =>
    by_cases hb : b = 47
    · subst hb
      rw [Lib.count_cons_eq, Nat.add_comm]
      unfold Lib.splitK splitS
      have e : Lib.index (47 :: l) [47] = 0 := by simp [Lib.index]
      rw [e]
      simp [ih]
    · rw [Lib.count_cons_ne b 47 l hb]
      have hi : Lib.index (b :: l) [47] = if Lib.index l [47] = -1 then -1 else Lib.index l [47] + 1 := by
        have : ([47] : List UInt8).isPrefixOf (b :: l) = false := by
          rw [List.isPrefixOf_cons_cons]
          have : ((47 : UInt8) == b) = false := by simpa using fun h : 47 = b => hb h.symm
          rw [this]; rfl
        rw [Lib.index, this]; simp
      have hg := Lib.index_ge l [47]
      rw [splitS, if_neg hb, ← ih]
      cases hk : Lib.count l [47] with
      | zero => simp [Lib.splitK]
      | succ k =>
        unfold Lib.splitK
        rw [hi]
        by_cases h2 : Lib.index l [47] = -1
        · simp [h2]
        · have h3 : Lib.index l [47] + 1 ≠ -1 := by omega
          have e : (Lib.index l [47] + 1).toNat = (Lib.index l [47]).toNat + 1 := by omega
          simp [h2, h3, e]
theorem trim_trimS (l : List UInt8) : Lib.trimPrefix l [47] = trimS l := by
  unfold Lib.trimPrefix Lib.hasPrefix
  cases l with
  | nil => rfl
  | cons c r =>
    unfold trimS
    by_cases h : c = 47
    · subst h; simp
    · have : ([47] : List UInt8).isPrefixOf (c :: r) = false := by
        rw [List.isPrefixOf_cons_cons]
        have : ((47 : UInt8) == c) = false := by simpa using fun e : 47 = c => h e.symm
        rw [this]; rfl
      rw [this]; simp [h]
end Go.Proofs.YtkneafpmgbgalaaGreatDoor.UriPlain
