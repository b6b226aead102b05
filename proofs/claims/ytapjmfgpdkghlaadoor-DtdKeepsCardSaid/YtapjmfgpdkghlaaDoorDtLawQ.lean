/- What is added a second time changes nothing; how great tables are. Plain. Conditions: none. -/
import Derived.Test.YtapjmfgpdkghlaaDoorDtLawP
namespace Go.Proofs.YtapjmfgpdkghlaaDoor
open Go.RowKit Go.Maps
set_option linter.unusedVariables false
set_option linter.unusedSimpArgs false
theorem addBy_mono {α : Type} (f : α → ByteArray) (l : List α) (x : α) {s : ByteArray} (h : hasT (l.map f) s = true) : hasT ((addBy f l x).map f) s = true := by
  unfold addBy
  split
  · exact h
  · rw [List.map_append, List.map_cons, List.map_nil, hasT_snoc, h]; rfl
theorem addBy_in {α : Type} (f : α → ByteArray) (l : List α) (x : α) : hasT ((addBy f l x).map f) (f x) = true := by
  unfold addBy
  split
  · assumption
  · rw [List.map_append, List.map_cons, List.map_nil, hasT_snoc]; simp
theorem stepE_mono (pm : Bool) (l : List Ent) (d : DcP) {s : ByteArray} (h : hasT (l.map Ent.na) s = true) : hasT ((stepE pm l d).map Ent.na) s = true := by
  unfold stepE
  split
  · exact addBy_mono _ _ _ h
  · exact h
theorem foldE_mono (pm : Bool) (ds : List DcP) {s : ByteArray} : ∀ l : List Ent, hasT (l.map Ent.na) s = true → hasT ((ds.foldl (stepE pm) l).map Ent.na) s = true := by
  induction ds with
  | nil => intro l h; exact h
  | cons d ds ih => intro l h; exact ih _ (stepE_mono pm l d h)
theorem foldE_in (pm : Bool) (ds : List DcP) {d : DcP} (ht : takesE pm d = true) : ∀ l : List Ent, d ∈ ds → hasT ((ds.foldl (stepE pm) l).map Ent.na) d.en.na = true := by
  induction ds with
  | nil => intro l h; cases h
  | cons e ds ih =>
    intro l h
    rcases List.mem_cons.1 h with rfl | h
    · refine foldE_mono pm ds _ ?_
      unfold stepE
      rw [if_pos ht]
      exact addBy_in Ent.na l d.en
    · exact ih _ h
theorem stepL_mono (l : List ByteArray) (d : DcP) {s : ByteArray} (h : hasT l s = true) : hasT (stepL l d) s = true := by
  unfold stepL
  split
  · split
    · exact h
    · rw [hasT_snoc, h]; rfl
  · exact h
theorem foldL_mono (ds : List DcP) {s : ByteArray} : ∀ l : List ByteArray, hasT l s = true → hasT (ds.foldl stepL l) s = true := by
  induction ds with
  | nil => intro l h; exact h
  | cons d ds ih => intro l h; exact ih _ (stepL_mono l d h)
theorem foldL_in (ds : List DcP) {d : DcP} (h2 : d.ki = 2) : ∀ l : List ByteArray, d ∈ ds → hasT (ds.foldl stepL l) d.na = true := by
  induction ds with
  | nil => intro l h; cases h
  | cons e ds ih =>
    intro l h
    rcases List.mem_cons.1 h with rfl | h
    · refine foldL_mono ds _ ?_
      unfold stepL
      rw [if_pos h2]
      split
      · assumption
      · rw [hasT_snoc]; simp
    · exact ih _ h
theorem addDs_mono (xs : List DfP) {s : ByteArray} : ∀ l : List DfP, hasT (l.map DfP.na) s = true → hasT ((addDs l xs).map DfP.na) s = true := by
  induction xs with
  | nil => intro l h; exact h
  | cons x xs ih => intro l h; exact ih _ (addBy_mono DfP.na l x h)
theorem addDs_in (xs : List DfP) {x : DfP} : ∀ l : List DfP, x ∈ xs → hasT ((addDs l xs).map DfP.na) x.na = true := by
  induction xs with
  | nil => intro l h; cases h
  | cons y xs ih =>
    intro l h
    rcases List.mem_cons.1 h with rfl | h
    · exact addDs_mono xs _ (addBy_in DfP.na l x)
    · exact ih _ h
theorem foldD_mono (t : ByteArray) (ds : List DcP) {s : ByteArray} : ∀ l : List DfP, hasT (l.map DfP.na) s = true → hasT ((ds.foldl (stepD t) l).map DfP.na) s = true := by
  induction ds with
  | nil => intro l h; exact h
  | cons d ds ih =>
    intro l h
    refine ih _ ?_
    unfold stepD
    split
    · exact addDs_mono _ _ h
    · exact h
theorem foldD_in (ds : List DcP) {d : DcP} {x : DfP} (h2 : d.ki = 2) (hx : x ∈ d.ds) : ∀ l : List DfP, d ∈ ds → hasT ((ds.foldl (stepD d.na) l).map DfP.na) x.na = true := by
  induction ds with
  | nil => intro l h; cases h
  | cons e ds ih =>
    intro l h
    rcases List.mem_cons.1 h with rfl | h
    · refine foldD_mono d.na ds _ ?_
      unfold stepD
      rw [if_pos ⟨h2, rfl⟩]
      exact addDs_in _ _ hx
    · exact ih _ h
theorem addDs_same (xs : List DfP) : ∀ l : List DfP, (∀ x ∈ xs, hasT (l.map DfP.na) x.na = true) → addDs l xs = l := by
  induction xs with
  | nil => intro l h; rfl
  | cons x xs ih =>
    intro l h
    have e : addBy DfP.na l x = l := if_pos (h x List.mem_cons_self)
    show addDs (addBy DfP.na l x) xs = l
    rw [e]
    exact ih l (fun y hy => h y (List.mem_cons_of_mem _ hy))
theorem addEl_same {els : List El} {name : ByteArray} {xs : List DfP} (h : hasT (els.map (·.1)) name = true) (hx : ∀ x ∈ xs, hasT ((dT els name).map DfP.na) x.na = true) : addEl els name xs = els := by
  have e : addBy (·.1) els (name, []) = els := if_pos h
  unfold addEl
  rw [e]
  obtain ⟨x, hi, hn⟩ := names_at h
  have hd : dT els name = x.2 := by
    unfold dT
    rw [if_pos h, hi]; rfl
  rw [hd] at hx
  unfold putEl
  rw [List.getD_eq_getElem?_getD, hi, Option.getD_some, addDs_same xs _ hx]
  obtain ⟨h1, h2⟩ := List.getElem?_eq_some_iff.1 hi
  apply List.ext_getElem?
  intro j
  rw [List.getElem?_set]
  by_cases hj : idxT (els.map (·.1)) name = j
  · subst hj
    rw [if_pos rfl, if_pos h1, hi, ← hn]
  · rw [if_neg hj]
theorem tab_again {ds : List DcP} {d : DcP} (h : d ∈ ds) : tAdd (tabR ds) d = tabR ds := by
  have e1 : (tAdd (tabR ds) d).gens = (tabR ds).gens := by
    rw [tAdd_gens]
    unfold stepE
    split
    · rename_i ht
      refine if_pos ?_
      rw [tab_gens]
      exact foldE_in false ds ht [] h
    · rfl
  have e2 : (tAdd (tabR ds) d).pars = (tabR ds).pars := by
    rw [tAdd_pars]
    unfold stepE
    split
    · rename_i ht
      refine if_pos ?_
      rw [tab_pars]
      exact foldE_in true ds ht [] h
    · rfl
  have e3 : (tAdd (tabR ds) d).nots = (tabR ds).nots := by
    rw [tAdd_nots]
    unfold stepN
    split
    · rename_i ht
      refine if_pos ?_
      show hasT ((tabR ds).nots.map (·.1)) d.na = true
      rw [tab_not_has, List.any_eq_true]
      exact ⟨d, h, by unfold isNot; rw [decide_eq_true ht, decide_eq_true rfl]; rfl⟩
    · rfl
  have e4 : (tAdd (tabR ds) d).els = (tabR ds).els := by
    rw [tAdd_els]
    unfold stepEl
    split
    · rename_i ht
      refine addEl_same ?_ ?_
      · rw [tab_names]
        exact foldL_in ds ht [] h
      · intro x hx
        rw [tab_defs]
        exact foldD_in ds ht hx [] h
    · rfl
  generalize tAdd (tabR ds) d = S at *
  obtain ⟨a, b, c, e⟩ := S
  dsimp only at e1 e2 e3 e4
  rw [e1, e2, e3, e4]
/-- How great a table of k declarations is. -/
structure Bnd (S : TSt) (k : Nat) : Prop where
  g : S.gens.length ≤ k
  p : S.pars.length ≤ k
  n : S.nots.length ≤ k
  e : S.els.length ≤ k
  d : ∀ x ∈ S.els, x.2.length ≤ 12 * k ∧ ∀ y ∈ x.2, OkDf y
theorem Bnd.nil : Bnd TSt.nil 0 := ⟨Nat.le_refl _, Nat.le_refl _, Nat.le_refl _, Nat.le_refl _, fun x hx => by cases hx⟩
theorem addDs_mem (xs : List DfP) {y : DfP} : ∀ l : List DfP, y ∈ addDs l xs → y ∈ l ∨ y ∈ xs := by
  induction xs with
  | nil => intro l h; exact .inl h
  | cons x xs ih =>
    intro l h
    rcases ih _ h with h | h
    · unfold addBy at h
      split at h
      · exact .inl h
      · rcases List.mem_append.1 h with h | h
        · exact .inl h
        · exact .inr (by rw [List.mem_singleton.1 h]; exact List.mem_cons_self)
    · exact .inr (List.mem_cons_of_mem _ h)
theorem Bnd.add {S : TSt} {k : Nat} (h : Bnd S k) {d : DcP} (hd : OkDc d) : Bnd (tAdd S d) (k + 1) := by
  refine ⟨?_, ?_, ?_, ?_, ?_⟩
  · rw [tAdd_gens]; have := stepE_len false S.gens d; have := h.g; omega
  · rw [tAdd_pars]; have := stepE_len true S.pars d; have := h.p; omega
  · rw [tAdd_nots]
    unfold stepN
    have := h.n
    split
    · have := addBy_len (fun x : Nt => x.1) S.nots (d.na, d.pu, d.sy); omega
    · omega
  · rw [tAdd_els]
    unfold stepEl
    have := h.e
    split
    · unfold addEl putEl
      rw [List.length_set]
      exact Nat.le_trans (addBy_len _ _ _) (by omega)
    · omega
  · intro x hx
    rw [tAdd_els] at hx
    unfold stepEl at hx
    split at hx
    · have hL : ∀ y ∈ addBy (·.1) S.els (d.na, []), y.2.length ≤ 12 * k ∧ ∀ z ∈ y.2, OkDf z := fun y hy => by
        unfold addBy at hy
        split at hy
        · exact h.d y hy
        · rcases List.mem_append.1 hy with hy | hy
          · exact h.d y hy
          · rw [List.mem_singleton.1 hy]
            exact ⟨Nat.zero_le _, fun z hz => by cases hz⟩
      unfold addEl at hx
      generalize addBy (fun x : El => x.1) S.els (d.na, []) = L at *
      unfold putEl at hx
      rcases List.mem_or_eq_of_mem_set hx with hx | hx
      · exact ⟨by have := (hL x hx).1; omega, (hL x hx).2⟩
      · have hg : (L.getD (idxT (L.map (·.1)) d.na) (d.na, [])).2.length ≤ 12 * k ∧ ∀ z ∈ (L.getD (idxT (L.map (·.1)) d.na) (d.na, [])).2, OkDf z := by
          rw [List.getD_eq_getElem?_getD]
          cases hi : L[idxT (L.map (·.1)) d.na]? with
          | none => exact ⟨Nat.zero_le _, fun z hz => by cases hz⟩
          | some y => exact hL y (List.mem_of_getElem? hi)
        generalize (L.getD (idxT (L.map (·.1)) d.na) (d.na, [])).2 = M at *
        rw [hx]
        refine ⟨?_, fun z hz => ?_⟩
        · have h1 := addDs_len d.ds M
          have h2 := hd.1
          have h3 := hg.1
          dsimp only
          omega
        · rcases addDs_mem d.ds M hz with h1 | h1
          · exact hg.2 z h1
          · exact hd.2.2.2 z h1
    · exact ⟨by have := (h.d x hx).1; omega, (h.d x hx).2⟩
theorem Bnd.take {ds : List DcP} (h : ∀ d ∈ ds, OkDc d) : ∀ k, k ≤ ds.length → Bnd (tabR (ds.take k)) k
  | 0, _ => by simpa [tabR] using Bnd.nil
  | k + 1, hk => by
    have hx : ds[k]? = some ds[k] := List.getElem?_eq_getElem (by omega)
    unfold tabR
    rw [foldl_next tAdd TSt.nil hx]
    exact (Bnd.take h k (by omega)).add (h _ (List.getElem_mem _))
theorem Bnd.all {ds : List DcP} (h : OkDcs ds) : Bnd (tabR ds) ds.length := by
  have := Bnd.take h.2 ds.length (Nat.le_refl _)
  rwa [List.take_of_length_le (Nat.le_refl _)] at this
theorem sum_le (l : List Nat) (m : Nat) (h : ∀ x ∈ l, x ≤ m) : l.sum ≤ l.length * m := by
  induction l with
  | nil => simp
  | cons x l ih =>
    rw [List.sum_cons, List.length_cons, Nat.add_mul]
    have := ih (fun y hy => h y (List.mem_cons_of_mem _ hy))
    have := h x List.mem_cons_self
    omega
theorem Bnd.len {S : TSt} (h : Bnd S 16) : lenT S ≤ 1000000 := by
  unfold lenT
  have h1 := sum_le (S.els.map fun x => x.2.length) 192 (fun y hy => by
    obtain ⟨x, hx, rfl⟩ := List.mem_map.1 hy
    exact (h.d x hx).1)
  rw [List.length_map] at h1
  have := h.g
  have := h.p
  have := h.n
  have := Nat.mul_le_mul_right 192 h.e
  omega
theorem Bnd.mono {S : TSt} {k m : Nat} (h : Bnd S k) (hk : k ≤ m) : Bnd S m := ⟨Nat.le_trans h.g hk, Nat.le_trans h.p hk, Nat.le_trans h.n hk, Nat.le_trans h.e hk, fun x hx => ⟨by have := (h.d x hx).1; omega, (h.d x hx).2⟩⟩
end Go.Proofs.YtapjmfgpdkghlaaDoor
