/- The table of any declarations is what the reference tells. Plain. Conditions: none. -/
import Derived.Test.YtapjmfgpdkghlaaDoorDtSame
namespace Go.Proofs.YtapjmfgpdkghlaaDoor
open Go.RowKit Go.Maps
set_option linter.unusedVariables false
set_option linter.unusedSimpArgs false
def tabR (ds : List DcP) : TSt := ds.foldl tAdd TSt.nil
theorem tAdd_gens (S : TSt) (d : DcP) : (tAdd S d).gens = stepE false S.gens d := by
  unfold tAdd stepE takesE
  by_cases h1 : d.ki = 1
  · rw [if_pos h1, decide_eq_true h1]
    cases hp : d.pm with
    | true => rfl
    | false =>
      by_cases hk : 0 < knownN d.en.na
      · rw [if_neg (by decide), if_pos hk, decide_eq_false (fun h => h hk)]; rfl
      · rw [if_neg (by decide), if_neg hk, decide_eq_true hk]; rfl
  · rw [if_neg h1, decide_eq_false h1]
    by_cases h3 : d.ki = 3
    · rw [if_pos h3]; rfl
    · rw [if_neg h3]
      by_cases h2 : d.ki = 2
      · rw [if_pos h2]; rfl
      · rw [if_neg h2]; rfl
theorem tAdd_pars (S : TSt) (d : DcP) : (tAdd S d).pars = stepE true S.pars d := by
  unfold tAdd stepE takesE
  by_cases h1 : d.ki = 1
  · rw [if_pos h1, decide_eq_true h1]
    cases hp : d.pm with
    | true => rfl
    | false =>
      by_cases hk : 0 < knownN d.en.na
      · rw [if_neg (by decide), if_pos hk]; rfl
      · rw [if_neg (by decide), if_neg hk]; rfl
  · rw [if_neg h1, decide_eq_false h1]
    by_cases h3 : d.ki = 3
    · rw [if_pos h3]; rfl
    · rw [if_neg h3]
      by_cases h2 : d.ki = 2
      · rw [if_pos h2]; rfl
      · rw [if_neg h2]; rfl
def stepN (l : List Nt) (d : DcP) : List Nt := if d.ki = 3 then addBy (·.1) l (d.na, d.pu, d.sy) else l
theorem tAdd_nots (S : TSt) (d : DcP) : (tAdd S d).nots = stepN S.nots d := by
  unfold tAdd stepN
  by_cases h1 : d.ki = 1
  · have h9 : ¬ d.ki = 3 := by omega
    rw [if_pos h1, if_neg h9]
    split
    · rfl
    · split <;> rfl
  · rw [if_neg h1]
    by_cases h3 : d.ki = 3
    · rw [if_pos h3, if_pos h3]
    · rw [if_neg h3, if_neg h3]
      by_cases h2 : d.ki = 2
      · rw [if_pos h2]
      · rw [if_neg h2]
abbrev El := ByteArray × List DfP
def stepEl (l : List El) (d : DcP) : List El := if d.ki = 2 then addEl l d.na d.ds else l
theorem tAdd_els (S : TSt) (d : DcP) : (tAdd S d).els = stepEl S.els d := by
  unfold tAdd stepEl
  by_cases h1 : d.ki = 1
  · have h9 : ¬ d.ki = 2 := by omega
    rw [if_pos h1, if_neg h9]
    split
    · rfl
    · split <;> rfl
  · rw [if_neg h1]
    by_cases h3 : d.ki = 3
    · have h9 : ¬ d.ki = 2 := by omega
      rw [if_pos h3, if_neg h9]
    · rw [if_neg h3]
      by_cases h2 : d.ki = 2
      · rw [if_pos h2, if_pos h2]
      · rw [if_neg h2, if_neg h2]
theorem fold_of {α : Type} (f : TSt → α) (g : α → DcP → α) (h : ∀ S d, f (tAdd S d) = g (f S) d) (ds : List DcP) : ∀ S, f (ds.foldl tAdd S) = ds.foldl g (f S) := by
  induction ds with
  | nil => intro S; rfl
  | cons d ds ih => intro S; simp only [List.foldl_cons]; rw [ih, h]
theorem tab_gens (ds : List DcP) : (tabR ds).gens = entsR ds false := fold_of TSt.gens _ tAdd_gens ds TSt.nil
theorem tab_pars (ds : List DcP) : (tabR ds).pars = entsR ds true := fold_of TSt.pars _ tAdd_pars ds TSt.nil
theorem tab_nots (ds : List DcP) : (tabR ds).nots = ds.foldl stepN [] := fold_of TSt.nots _ tAdd_nots ds TSt.nil
theorem tab_els (ds : List DcP) : (tabR ds).els = ds.foldl stepEl [] := fold_of TSt.els _ tAdd_els ds TSt.nil
/-- What elements of a name have. -/
def dT (els : List El) (s : ByteArray) : List DfP := if hasT (els.map (·.1)) s = true then ((els[idxT (els.map (·.1)) s]?).map (·.2)).getD [] else []
theorem names_at {els : List El} {s : ByteArray} (h : hasT (els.map (·.1)) s = true) : ∃ x, els[idxT (els.map (·.1)) s]? = some x ∧ x.1 = s := by
  have h2 := idxT_is h
  rw [List.getElem?_map] at h2
  exact Option.map_eq_some_iff.1 h2
theorem addBy_names (els : List El) (name : ByteArray) : (addBy (·.1) els (name, [])).map (·.1) = if hasT (els.map (·.1)) name = true then els.map (·.1) else els.map (·.1) ++ [name] := by
  unfold addBy
  split
  · rfl
  · rw [List.map_append]; rfl
theorem addBy_has (els : List El) (name : ByteArray) : hasT ((addBy (·.1) els (name, [])).map (·.1)) name = true := by
  rw [addBy_names]
  split
  · assumption
  · rw [hasT_snoc]; simp
theorem putEl_names {els : List El} {name : ByteArray} (ds : List DfP) (h : hasT (els.map (·.1)) name = true) : (putEl els name ds).map (·.1) = els.map (·.1) := by
  obtain ⟨x, hx, hn⟩ := names_at h
  unfold putEl
  exact map_set_same (y := (name, _)) (fun z : El => z.1) hx hn.symm
theorem addEl_names (els : List El) (name : ByteArray) (ds : List DfP) : (addEl els name ds).map (·.1) = if hasT (els.map (·.1)) name = true then els.map (·.1) else els.map (·.1) ++ [name] := by
  unfold addEl
  rw [putEl_names ds (addBy_has els name), addBy_names]
theorem stepEl_names (els : List El) (d : DcP) : (stepEl els d).map (·.1) = stepL (els.map (·.1)) d := by
  unfold stepEl stepL
  split
  · exact addEl_names els d.na d.ds
  · rfl
theorem foldEl_names (ds : List DcP) : ∀ els : List El, (ds.foldl stepEl els).map (·.1) = ds.foldl stepL (els.map (·.1)) := by
  induction ds with
  | nil => intro els; rfl
  | cons d ds ih => intro els; simp only [List.foldl_cons]; rw [ih, stepEl_names]
theorem tab_names (ds : List DcP) : (tabR ds).els.map (·.1) = elsR ds := by rw [tab_els]; exact foldEl_names ds []
theorem dT_addBy (els : List El) (name s : ByteArray) : dT (addBy (·.1) els (name, [])) s = dT els s := by
  unfold addBy
  split
  · rfl
  · rename_i h
    have h : hasT (els.map (·.1)) name = false := by simpa using h
    unfold dT
    rw [List.map_append, List.map_cons, List.map_nil, hasT_snoc]
    by_cases hs : name = s
    · subst hs
      rw [h, decide_eq_true rfl, Bool.false_or, if_pos rfl, if_neg (by decide), idxT_new h, List.length_map, List.getElem?_append_right (Nat.le_refl _)]
      simp
    · rw [decide_eq_false hs, Bool.or_false, idxT_other hs]
      split
      · rename_i h2
        have hlt := idxT_lt h2
        rw [List.length_map] at hlt
        rw [List.getElem?_append_left hlt]
      · rfl
theorem dT_putEl {els : List El} {name : ByteArray} (ds : List DfP) (h : hasT (els.map (·.1)) name = true) (s : ByteArray) : dT (putEl els name ds) s = if s = name then addDs (dT els name) ds else dT els s := by
  obtain ⟨x, hx, hn⟩ := names_at h
  have hlt := (List.getElem?_eq_some_iff.1 hx).1
  by_cases hs : s = name
  · subst hs
    rw [if_pos rfl]
    unfold dT
    rw [putEl_names ds h, if_pos h, if_pos h, hx]
    unfold putEl
    rw [List.getElem?_set, if_pos rfl, if_pos hlt, List.getD_eq_getElem?_getD, hx]
    rfl
  · rw [if_neg hs]
    unfold dT
    rw [putEl_names ds h]
    split
    · rename_i h2
      have h3 : ¬ idxT (els.map (·.1)) name = idxT (els.map (·.1)) s := fun e => by
        have h4 := idxT_is h2
        have h5 := idxT_is h
        rw [e, h4] at h5
        exact hs (Option.some.inj h5)
      unfold putEl
      rw [List.getElem?_set, if_neg h3]
    · rfl
theorem dT_addEl (els : List El) (name : ByteArray) (ds : List DfP) (s : ByteArray) : dT (addEl els name ds) s = if s = name then addDs (dT els name) ds else dT els s := by
  unfold addEl
  rw [dT_putEl ds (addBy_has els name), dT_addBy, dT_addBy]
theorem dT_step (els : List El) (d : DcP) (s : ByteArray) : dT (stepEl els d) s = stepD s (dT els s) d := by
  unfold stepEl stepD
  by_cases h2 : d.ki = 2
  · rw [if_pos h2, dT_addEl]
    by_cases hs : s = d.na
    · rw [if_pos hs, if_pos ⟨h2, hs.symm⟩, hs]
    · rw [if_neg hs, if_neg (fun h => hs h.2.symm)]
  · rw [if_neg h2, if_neg (fun h => h2 h.1)]
theorem dT_fold (ds : List DcP) (s : ByteArray) : ∀ els : List El, dT (ds.foldl stepEl els) s = ds.foldl (stepD s) (dT els s) := by
  induction ds with
  | nil => intro els; rfl
  | cons d ds ih => intro els; simp only [List.foldl_cons]; rw [ih, dT_step]
theorem tab_defs (ds : List DcP) (s : ByteArray) : dT (tabR ds).els s = defsR ds s := by rw [tab_els]; exact dT_fold ds s []
theorem stepL_nodup {l : List ByteArray} (h : l.Nodup) (d : DcP) : (stepL l d).Nodup := by
  unfold stepL
  split
  · split
    · exact h
    · rename_i h2
      rw [List.nodup_append]
      refine ⟨h, by simp, fun a ha b hb e => ?_⟩
      obtain rfl : b = d.na := by simpa using hb
      subst e
      exact h2 (hasT_mem.2 ha)
  · exact h
theorem foldL_nodup (ds : List DcP) : ∀ l : List ByteArray, l.Nodup → (ds.foldl stepL l).Nodup := by
  induction ds with
  | nil => intro l h; exact h
  | cons d ds ih => intro l h; simp only [List.foldl_cons]; exact ih _ (stepL_nodup h d)
theorem elsR_nodup (ds : List DcP) : (elsR ds).Nodup := foldL_nodup ds [] List.nodup_nil
theorem idxT_nodup {ns : List ByteArray} (h : ns.Nodup) {i : Nat} {s : ByteArray} (hi : ns[i]? = some s) : idxT ns s = i := by
  have hh : hasT ns s = true := hasT_mem.2 (List.mem_of_getElem? hi)
  have h2 := idxT_is hh
  obtain ⟨a1, a2⟩ := List.getElem?_eq_some_iff.1 hi
  obtain ⟨b1, b2⟩ := List.getElem?_eq_some_iff.1 h2
  have hp := List.pairwise_iff_getElem.1 h
  rcases Nat.lt_trichotomy (idxT ns s) i with h3 | h3 | h3
  · exact absurd (b2.trans a2.symm) (hp _ _ b1 a1 h3)
  · exact h3
  · exact absurd (a2.trans b2.symm) (hp _ _ a1 b1 h3)
/-- The table's elements are the reference's. -/
theorem tab_els_is (ds : List DcP) : (tabR ds).els = (elsR ds).map fun s => (s, defsR ds s) := by
  have hn := tab_names ds
  apply List.ext_getElem?
  intro i
  rw [List.getElem?_map, ← hn, List.getElem?_map]
  cases hx : (tabR ds).els[i]? with
  | none => rfl
  | some x =>
    have hnd : ((tabR ds).els.map (·.1)).Nodup := by rw [hn]; exact elsR_nodup ds
    have hxi : ((tabR ds).els.map (·.1))[i]? = some x.1 := by rw [List.getElem?_map, hx]; rfl
    have hix := idxT_nodup hnd hxi
    have hh : hasT ((tabR ds).els.map (·.1)) x.1 = true := hasT_mem.2 (List.mem_of_getElem? hxi)
    have hd := tab_defs ds x.1
    unfold dT at hd
    rw [if_pos hh, hix, hx] at hd
    have hd : x.2 = defsR ds x.1 := hd
    simp only [Option.map_some]
    rw [← hd]
/- Notations. -/
theorem stepN_names (l : List Nt) (d : DcP) (s : ByteArray) : hasT ((stepN l d).map (·.1)) s = (hasT (l.map (·.1)) s || isNot s d) := by
  unfold stepN isNot
  by_cases h3 : d.ki = 3
  · rw [if_pos h3, decide_eq_true h3, Bool.true_and]
    unfold addBy
    by_cases hh : hasT (l.map (·.1)) d.na = true
    · rw [if_pos hh]
      by_cases hs : d.na = s
      · subst hs; rw [hh]; rfl
      · rw [decide_eq_false hs, Bool.or_false]
    · rw [if_neg hh, List.map_append, List.map_cons, List.map_nil, hasT_snoc]
  · rw [if_neg h3, decide_eq_false h3, Bool.false_and, Bool.or_false]
theorem stepN_find (l : List Nt) (d : DcP) (s : ByteArray) : findN (stepN l d) s = if hasT (l.map (·.1)) s = true then findN l s else if isNot s d = true then (d.pu, d.sy) else (⟨#[]⟩, ⟨#[]⟩) := by
  by_cases h3 : d.ki = 3
  · have e1 : stepN l d = addBy (·.1) l (d.na, d.pu, d.sy) := if_pos h3
    by_cases hh : hasT (l.map (·.1)) d.na = true
    · have e2 : addBy (·.1) l (d.na, d.pu, d.sy) = l := if_pos hh
      rw [e1, e2]
      by_cases hs : hasT (l.map (·.1)) s = true
      · rw [if_pos hs]
      · rw [if_neg hs]
        have h4 : ¬ isNot s d = true := fun h => by
          unfold isNot at h
          simp only [Bool.and_eq_true, decide_eq_true_eq] at h
          rw [← h.2] at hs
          exact hs hh
        rw [if_neg h4]
        exact if_neg hs
    · have e2 : addBy (·.1) l (d.na, d.pu, d.sy) = l ++ [(d.na, d.pu, d.sy)] := if_neg hh
      have hh : hasT (l.map (·.1)) d.na = false := by simpa using hh
      rw [e1, e2]
      unfold findN
      rw [List.map_append, List.map_cons, List.map_nil, hasT_snoc]
      by_cases hs : d.na = s
      · subst hs
        rw [hh, decide_eq_true rfl, Bool.false_or, if_pos rfl, if_neg (by decide), if_pos (show isNot d.na d = true by unfold isNot; rw [decide_eq_true h3, decide_eq_true rfl]; rfl), idxT_new hh, List.length_map, List.getD_eq_getElem?_getD, List.getElem?_append_right (Nat.le_refl _)]
        simp
      · rw [decide_eq_false hs, Bool.or_false, idxT_other hs, if_neg (show ¬ isNot s d = true by unfold isNot; rw [decide_eq_false hs]; simp)]
        by_cases h2 : hasT (l.map (·.1)) s = true
        · have hlt := idxT_lt h2
          rw [List.length_map] at hlt
          rw [if_pos h2, if_pos h2, if_pos h2, List.getD_eq_getElem?_getD, List.getD_eq_getElem?_getD, List.getElem?_append_left hlt]
        · rw [if_neg h2, if_neg h2]
  · have e1 : stepN l d = l := if_neg h3
    rw [e1, if_neg (show ¬ isNot s d = true by unfold isNot; rw [decide_eq_false h3]; simp)]
    by_cases h2 : hasT (l.map (·.1)) s = true
    · rw [if_pos h2]
    · rw [if_neg h2]; exact if_neg h2
def fstN (ds : List DcP) (s : ByteArray) : ByteArray × ByteArray := match ds.find? (isNot s) with
  | some d => (d.pu, d.sy)
  | none => (⟨#[]⟩, ⟨#[]⟩)
theorem fold_names (ds : List DcP) (s : ByteArray) : ∀ l : List Nt, hasT ((ds.foldl stepN l).map (·.1)) s = (hasT (l.map (·.1)) s || ds.any (isNot s)) := by
  induction ds with
  | nil => intro l; simp
  | cons d ds ih => intro l; simp only [List.foldl_cons, List.any_cons]; rw [ih, stepN_names, Bool.or_assoc]
theorem fold_find (ds : List DcP) (s : ByteArray) : ∀ l : List Nt, findN (ds.foldl stepN l) s = if hasT (l.map (·.1)) s = true then findN l s else fstN ds s := by
  induction ds with
  | nil =>
    intro l
    by_cases h2 : hasT (l.map (·.1)) s = true
    · rw [if_pos h2]; rfl
    · rw [if_neg h2]; exact if_neg h2
  | cons d ds ih =>
    intro l
    simp only [List.foldl_cons]
    rw [ih, stepN_names, stepN_find]
    unfold fstN
    rw [List.find?_cons]
    cases h2 : hasT (l.map (·.1)) s with
    | true => simp
    | false =>
      cases h3 : isNot s d with
      | true => simp
      | false => simp
theorem tab_not_has (ds : List DcP) (s : ByteArray) : hasT ((tabR ds).nots.map (·.1)) s = ds.any (isNot s) := by rw [tab_nots, fold_names]; simp [hasT]
theorem tab_not_find (ds : List DcP) (s : ByteArray) : findN (tabR ds).nots s = fstN ds s := by rw [tab_nots, fold_find]; simp [hasT]
/-- A notation's place. -/
theorem notI_has {ds : List DcP} {s : ByteArray} (h : ds.any (isNot s) = true) : ∃ (k : Nat) (d : DcP), ds[k]? = some d ∧ notI ds s = (k : Int) ∧ fstN ds s = (d.pu, d.sy) := by
  cases hf : ds.findIdx? (isNot s) with
  | none =>
    rw [List.findIdx?_eq_none_iff] at hf
    rw [List.any_eq_true] at h
    obtain ⟨x, hx, hp⟩ := h
    rw [hf x hx] at hp
    cases hp
  | some k =>
    obtain ⟨h1, h2, h3⟩ := List.findIdx?_eq_some_iff_getElem.1 hf
    refine ⟨k, ds[k], List.getElem?_eq_getElem h1, by unfold notI; rw [hf], ?_⟩
    have hfd : ds.find? (isNot s) = some ds[k] := by
      rw [List.find?_eq_some_iff_getElem]
      exact ⟨h2, k, h1, rfl, fun j hj => by have := h3 j hj; simpa using this⟩
    unfold fstN
    rw [hfd]
theorem notI_hasnt {ds : List DcP} {s : ByteArray} (h : ds.any (isNot s) = false) : notI ds s = -1 ∧ fstN ds s = (⟨#[]⟩, ⟨#[]⟩) := by
  have h0 : ∀ x ∈ ds, isNot s x = false := by simpa using h
  refine ⟨notI_none fun j e hj he => h0 e (List.mem_of_getElem? he), ?_⟩
  have : ds.find? (isNot s) = none := by
    rw [List.find?_eq_none]
    intro x hx
    rw [h0 x hx]; decide
  unfold fstN
  rw [this]
theorem addBy_len_is {α : Type} (f : α → ByteArray) (l : List α) (x : α) : (addBy f l x).length = l.length + if hasT (l.map f) (f x) = true then 0 else 1 := by
  unfold addBy
  split
  · rfl
  · simp
theorem cntN_is (ds : List DcP) : ∀ k, k ≤ ds.length → ((ds.take k).foldl stepN []).length = cntN ds k
  | 0, _ => by simp [cntN]
  | k + 1, hk => by
    have ih := cntN_is ds k (by omega)
    have hx : ds[k]? = some ds[k] := List.getElem?_eq_getElem (by omega)
    rw [foldl_next stepN [] hx]
    unfold cntN
    rw [hx]
    dsimp only
    rw [← ih]
    have hnm := fold_names (ds.take k) ds[k].na []
    generalize (ds.take k).foldl stepN [] = L at *
    by_cases h3 : ds[k].ki = 3
    · have e1 : stepN L ds[k] = addBy (·.1) L (ds[k].na, ds[k].pu, ds[k].sy) := if_pos h3
      rw [e1, addBy_len_is]
      show L.length + (if hasT (L.map (·.1)) ds[k].na = true then 0 else 1) = _
      have hkey : (hasT (L.map (·.1)) ds[k].na = true) ↔ ¬ notI ds ds[k].na = (k : Int) := by
        rw [hnm]
        simp only [hasT, List.map_nil, List.any_nil, Bool.false_or]
        constructor
        · intro ha he
          rw [List.any_eq_true] at ha
          obtain ⟨x, hx2, hp⟩ := ha
          obtain ⟨j, hj⟩ := List.getElem?_of_mem hx2
          rw [List.getElem?_take] at hj
          split at hj
          · rename_i hjk
            cases hf : ds.findIdx? (isNot ds[k].na) with
            | none =>
              rw [List.findIdx?_eq_none_iff] at hf
              rw [hf x (List.mem_of_getElem? hj)] at hp
              cases hp
            | some i =>
              obtain ⟨h1, h2, h4⟩ := List.findIdx?_eq_some_iff_getElem.1 hf
              unfold notI at he
              rw [hf] at he
              have hik : i = k := by have he : ((i : Nat) : Int) = (k : Int) := he; omega
              subst hik
              have h5 := h4 j hjk
              obtain ⟨_, hj2⟩ := List.getElem?_eq_some_iff.1 hj
              rw [hj2, hp] at h5
              exact absurd rfl h5
          · cases hj
        · intro hne
          by_cases ha : (ds.take k).any (isNot ds[k].na) = true
          · exact ha
          · have h0 : ∀ x ∈ ds.take k, isNot ds[k].na x = false := by simpa using ha
            refine absurd (notI_at (s := ds[k].na) (fun j e hj he => h0 e ?_) hx (by unfold isNot; rw [decide_eq_true h3, decide_eq_true rfl]; rfl)) hne
            have : (ds.take k)[j]? = some e := by rw [List.getElem?_take, if_pos hj]; exact he
            exact List.mem_of_getElem? this
      by_cases hn : notI ds ds[k].na = (k : Int)
      · rw [if_neg (fun h => (hkey.1 h) hn), if_pos ⟨h3, hn⟩]
      · rw [if_pos (hkey.2 hn), if_neg (fun h => hn h.2)]
    · have e1 : stepN L ds[k] = L := if_neg h3
      rw [e1, if_neg (fun h => h3 h.1)]; rfl
theorem tab_not_len (ds : List DcP) : (tabR ds).nots.length = cntN ds ds.length := by
  rw [tab_nots, ← cntN_is ds ds.length (Nat.le_refl _), List.take_of_length_le (Nat.le_refl _)]
def lenT (S : TSt) : Nat := S.gens.length + S.pars.length + S.nots.length + (S.els.map fun x => x.2.length).sum
theorem tab_len (ds : List DcP) : lenT (tabR ds) = lenR ds := by
  unfold lenT lenR
  rw [tab_gens, tab_pars, tab_not_len, tab_els_is, List.map_map]
  rfl
theorem lenM_is (T : Tm) : lenM T = lenT T.st := by
  unfold lenM lenT sumL
  have e : (T.st.els.map fun x => x.2.length) = T.els.map fun x => x.ds.length := by
    unfold Tm.st
    rw [List.map_map]
    apply List.map_congr_left
    intro x _
    simp
  rw [e]; rfl
theorem defsM_is (T : Tm) (s : ByteArray) : (defsM T s).map Df.p = dT T.st.els s := by
  unfold defsM dT
  rw [st_els]
  split
  · unfold Tm.st
    rw [List.getElem?_map]
    cases T.els[idxT (T.els.map Elm.na) s]? with
    | none => rfl
    | some x => rfl
  · rfl
end Go.Proofs.YtapjmfgpdkghlaaDoor
