/- Merged texts: CostSame, CostFix, CostRText, CostRAll, CostROf, CostSizes. -/
import Derived.Test.YtkeclfhhilphpaaDoorCostMn
import Derived.Test.YtkeclfhhilphpaaDoorEntRef
import Derived.Deep.RegionHeld3
import Derived.Deep.Cut
import Derived.BigQuiet
import Derived.Deep.LoopGhost
import Derived.Test.YtkeclfhhilphpaaDoorEntMd
/- The document's size of a text is the program's; sizes that are reckoned again and again are those of the order. Plain; no program in sight. -/
namespace Go.Proofs.YtkeclfhhilphpaaDoor
open Go.Proofs.YtkeclfhhilphpaaDoor.RefPlain Go.Proofs.YtkeclfhhilphpaaDoor.GraphPlain
set_option linter.unusedVariables false
set_option linter.unusedSimpArgs false
def rstep (f : SzF) (st : Nat × Sz) (r : RefR) : Nat × Sz := match f (strOfNums r.s) with
  | some z => (st.1 - (r.b - r.a), ⟨addM st.2.c z.c, addM st.2.l z.l, max st.2.d (z.d + 1)⟩)
  | none => if 0 < knownN (strOfNums r.s) then (st.1 - (r.b - r.a) + 1, st.2) else st
def racc (f : SzF) (bs : List Int) (l : List RefR) : Nat × Sz := l.foldl (rstep f) (bs.length, ⟨bs.length, 0, 0⟩)
def rtext (f : SzF) (bs : List Int) : Sz := ⟨(racc f bs (refsN bs)).2.c, addM (racc f bs (refsN bs)).2.l (racc f bs (refsN bs)).1, (racc f bs (refsN bs)).2.d⟩
theorem racc_next {f : SzF} {bs : List Int} {l : List RefR} {k : Nat} {x : RefR} (h : l[k]? = some x) : racc f bs (l.take (k + 1)) = rstep f (racc f bs (l.take k)) x := by
  unfold racc
  rw [List.take_add_one, h, List.foldl_append]
  rfl
/-- What both hold behind some references. -/
structure Both (n : Nat) (A : Sz × Nat) (R : Nat × Sz) : Prop where
  ex : ∃ tc tl pl : Nat, A.1.c = min (A.2 + tc) MX ∧ A.1.l = min (pl + tl) MX ∧ A.1.d = R.2.d ∧ R.2.c = min (n + tc) MX ∧ R.2.l = min tl MX ∧ R.1 = n - A.2 + pl ∧ A.2 ≤ n
theorem both_next {f : SzF} {n : Nat} {A : Sz × Nat} {R : Nat × Sz} {x : RefR} (h : Both n A R) (h1 : A.2 ≤ x.a) (h2 : x.a ≤ x.b) (h3 : x.b ≤ n) :
    Both n (sumZ (sumZ A.1 (gapZ (x.a - A.2))) (refF f x), x.b) (rstep f R x) := by
  obtain ⟨⟨c, l, d⟩, pos⟩ := A
  obtain ⟨m, ⟨oc, ol, od⟩⟩ := R
  obtain ⟨tc, tl, pl, e1, e2, e3, e4, e5, e6, e7⟩ := h.ex
  dsimp only at e1 e2 e3 e4 e5 e6 e7 h1
  unfold refF rstep
  cases hf : f (strOfNums x.s) with
  | some z =>
    dsimp only
    refine ⟨tc + z.c, tl + z.l, pl + (x.a - pos), ?_, ?_, ?_, ?_, ?_, ?_, h3⟩
    · simp only [sumZ, addM, gapZ]; generalize MX = Q at *; omega
    · simp only [sumZ, addM, gapZ]; generalize MX = Q at *; omega
    · simp only [sumZ, addM, gapZ]; generalize MX = Q at *; omega
    · simp only [sumZ, addM, gapZ]; generalize MX = Q at *; omega
    · simp only [sumZ, addM, gapZ]; generalize MX = Q at *; omega
    · simp only [sumZ, addM, gapZ]; generalize MX = Q at *; omega
  | none =>
    dsimp only
    by_cases hk : 0 < knownN (strOfNums x.s)
    · rw [if_pos hk, if_pos hk]
      refine ⟨tc, tl, pl + (x.a - pos) + 1, ?_, ?_, ?_, e4, e5, ?_, h3⟩
      · simp only [sumZ, addM, gapZ]; generalize MX = Q at *; omega
      · simp only [sumZ, addM, gapZ]; generalize MX = Q at *; omega
      · simp only [sumZ, addM, gapZ]; generalize MX = Q at *; omega
      · simp only [sumZ, addM, gapZ]; generalize MX = Q at *; omega
    · rw [if_neg hk, if_neg hk]
      refine ⟨tc, tl, pl + (x.a - pos) + (x.b - x.a), ?_, ?_, ?_, e4, e5, ?_, h3⟩
      · simp only [sumZ, addM, gapZ]; generalize MX = Q at *; omega
      · simp only [sumZ, addM, gapZ]; generalize MX = Q at *; omega
      · simp only [sumZ, addM, gapZ]; generalize MX = Q at *; omega
      · simp only [sumZ, addM, gapZ]; generalize MX = Q at *; omega
theorem both_all (f : SzF) (bs : List Int) (hn : bs.length ≤ MX) : ∀ k, Both bs.length (accZ (refF f) ((refsN bs).take k)) (racc f bs ((refsN bs).take k)) := by
  intro k
  induction k with
  | zero => exact ⟨0, 0, 0, by show 0 = min (0 + 0) MX; omega, by show 0 = min (0 + 0) MX; omega, rfl, by show bs.length = min (bs.length + 0) MX; omega, by show 0 = min 0 MX; omega, by show bs.length = bs.length - 0 + 0; omega, Nat.zero_le _⟩
  | succ k ih =>
    cases hx : (refsN bs)[k]? with
    | none =>
      have e : (refsN bs).take (k + 1) = (refsN bs).take k := by rw [List.take_add_one, hx]; simp
      rw [e]; exact ih
    | some x =>
      obtain ⟨h1, h2, h3⟩ := acc_at (refF f) bs hx
      rw [accZ_next hx, racc_next hx]
      exact both_next ih h1 h2 h3
theorem rtext_eq (f : SzF) (bs : List Int) (hn : bs.length ≤ MX) : rtext f bs = sizeT (refF f) bs := by
  obtain ⟨tc, tl, pl, e1, e2, e3, e4, e5, e6, e7⟩ := (both_all f bs hn (refsN bs).length).ex
  rw [List.take_length] at e1 e2 e3 e4 e5 e6 e7
  rw [sizeT_acc]
  unfold rtext
  refine Sz.ext' ?_ ?_ ?_
  · show (racc f bs (refsN bs)).2.c = min ((accZ (refF f) (refsN bs)).1.c + (bs.length - (accZ (refF f) (refsN bs)).2)) MX
    omega
  · show min ((racc f bs (refsN bs)).2.l + (racc f bs (refsN bs)).1) MX = min ((accZ (refF f) (refsN bs)).1.l + (bs.length - (accZ (refF f) (refsN bs)).2)) MX
    omega
  · show (racc f bs (refsN bs)).2.d = max (accZ (refF f) (refsN bs)).1.d 0
    omega
/-- How much a reference's entry may be while a text is gone through. -/
theorem racc_bound {f : SzF} {m : Nat} (bs : List Int) (hf : okF f m) (hn : bs.length ≤ MX) : ∀ k, (racc f bs ((refsN bs).take k)).2.upto (m + 1) ∧ (racc f bs ((refsN bs).take k)).1 ≤ bs.length + k := by
  intro k
  induction k with
  | zero => exact ⟨⟨hn, Nat.zero_le _, Nat.zero_le _⟩, Nat.le_refl _⟩
  | succ k ih =>
    cases hx : (refsN bs)[k]? with
    | none =>
      have e : (refsN bs).take (k + 1) = (refsN bs).take k := by rw [List.take_add_one, hx]; simp
      rw [e]; exact ⟨ih.1, by omega⟩
    | some x =>
      rw [racc_next hx]
      generalize racc f bs ((refsN bs).take k) = R at ih
      obtain ⟨⟨g1, g2, g3⟩, g4⟩ := ih
      unfold rstep
      cases h : f (strOfNums x.s) with
      | some z =>
        obtain ⟨k1, k2, k3⟩ := hf _ _ h
        exact ⟨⟨by show min _ _ ≤ _; omega, by show min _ _ ≤ _; omega, by show max _ _ ≤ _; omega⟩, by show R.1 - (x.b - x.a) ≤ _; omega⟩
      | none =>
        dsimp only
        split
        · exact ⟨⟨g1, g2, g3⟩, by show R.1 - (x.b - x.a) + 1 ≤ _; omega⟩
        · exact ⟨⟨g1, g2, g3⟩, by omega⟩
end Go.Proofs.YtkeclfhhilphpaaDoor
/- Sizes that are reckoned again and again till nothing changes are those of the order. Plain; no program in sight. -/
namespace Go.Proofs.YtkeclfhhilphpaaDoor
open Go.Proofs.YtkeclfhhilphpaaDoor.RefPlain Go.Proofs.YtkeclfhhilphpaaDoor.GraphPlain
set_option linter.unusedVariables false
set_option linter.unusedSimpArgs false
def lookF (inn : List Ent) (zs : List Sz) : SzF := fun y => if hasT (inn.map Ent.na) y = true then some (zs.getD (idxT (inn.map Ent.na) y) zero3) else none
def zAt (zs : List Sz) (i : Nat) : Sz := zs.getD i zero3
theorem zAt_set {zs : List Sz} {i j : Nat} (hi : i < zs.length) (z : Sz) : zAt (zs.set i z) j = if i = j then z else zAt zs j := by
  unfold zAt
  rw [List.getD_eq_getElem?_getD, List.getElem?_set]
  by_cases h : i = j
  · subst h; rw [if_pos rfl, if_pos rfl, if_pos hi]; rfl
  · rw [if_neg h, if_neg h, List.getD_eq_getElem?_getD]
theorem idxT_is {ns : List ByteArray} {y : ByteArray} (h : hasT ns y = true) : ns[idxT ns y]? = some y := by
  unfold idxT
  cases hf : ns.findIdx? (fun z => decide (z = y)) with
  | none =>
    rw [List.findIdx?_eq_none_iff] at hf
    unfold hasT at h
    rw [List.any_eq_true] at h
    obtain ⟨z, hz, e⟩ := h
    rw [hf z hz] at e; cases e
  | some k =>
    obtain ⟨h1, h2, _⟩ := List.findIdx?_eq_some_iff_getElem.1 hf
    have h2 : ns[k] = y := by simpa using h2
    show ns[k]? = some y
    rw [List.getElem?_eq_getElem h1, h2]
theorem idx_name {l : List Ent} {i : Nat} (hi : i < (innerN l).length) : hasT ((innerN l).map Ent.na) (entD (innerN l) i).na = true ∧ idxT ((innerN l).map Ent.na) (entD (innerN l) i).na = i := by
  have hn : ((innerN l).map Ent.na)[i]? = some (entD (innerN l) i).na := by
    rw [List.getElem?_map, List.getElem?_eq_getElem hi]
    unfold entD
    rw [List.getD_eq_getElem?_getD, List.getElem?_eq_getElem hi]; rfl
  have hm : hasT ((innerN l).map Ent.na) (entD (innerN l) i).na = true := by
    unfold hasT
    rw [List.any_eq_true]
    exact ⟨_, List.mem_of_getElem? hn, by simp⟩
  refine ⟨hm, ?_⟩
  have h1 := idxT_lt hm
  have h2 := idxT_is hm
  have hnd := innerN_nodup l
  obtain ⟨g1, g2⟩ := List.getElem?_eq_some_iff.1 hn
  obtain ⟨g3, g4⟩ := List.getElem?_eq_some_iff.1 h2
  exact (List.getElem_inj (h₀ := g3) (h₁ := g1) hnd).1 (by rw [g4, g2])
theorem row_entG {l : List Ent} {i : Nat} (hi : i < (innerN l).length) : row (entG l) i = toN ((innerN l).map Ent.na) (outN true (namesOf (entD (innerN l) i).tx)) := by
  unfold row entG entD
  rw [List.getD_eq_getElem?_getD, List.getElem?_map, List.getElem?_eq_getElem hi, List.getD_eq_getElem?_getD, List.getElem?_eq_getElem hi]
  rfl
/-- A reference's entity is one to which its text leads. -/
theorem ref_row {l : List Ent} {i : Nat} (hi : i < (innerN l).length) {r : RefR} (hr : r ∈ refsN (bsOf (entD (innerN l) i).tx)) (hh : hasT ((innerN l).map Ent.na) (strOfNums r.s) = true) :
    idxT ((innerN l).map Ent.na) (strOfNums r.s) ∈ row (entG l) i := by
  rw [row_entG hi]
  unfold toN
  refine List.mem_map.2 ⟨strOfNums r.s, List.mem_filter.2 ⟨?_, hh⟩, rfl⟩
  have h1 : strOfNums r.s ∈ namesOf (entD (innerN l) i).tx := List.mem_map.2 ⟨r, hr, rfl⟩
  have h2 := hasT_out (namesOf (entD (innerN l) i).tx) (strOfNums r.s)
  have h3 : hasT (namesOf (entD (innerN l) i).tx) (strOfNums r.s) = true := by
    unfold hasT
    rw [List.any_eq_true]
    exact ⟨_, h1, by simp⟩
  rw [h3] at h2
  unfold hasT at h2
  rw [List.any_eq_true] at h2
  obtain ⟨z, hz, e⟩ := h2
  have e : z = strOfNums r.s := by simpa using e
  rw [← e]; exact hz
theorem refF_congr {f g : SzF} {r : RefR} (h : f (strOfNums r.s) = g (strOfNums r.s)) : refF f r = refF g r := by
  unfold refF; rw [h]
theorem sizeT_congr {f g : RefR → Sz} {bs : List Int} (h : ∀ r ∈ refsN bs, f r = g r) : sizeT f bs = sizeT g bs := by
  unfold sizeT
  rw [List.map_congr_left (f := rzOf f) (g := rzOf g) (fun r hr => by unfold rzOf; rw [h r hr])]
/-- Sizes are right in the first places of the order. -/
def RightTo (l : List Ent) (zs : List Sz) (k : Nat) : Prop := ∀ p, p < k → p < (innerN l).length → zAt zs (sn (orderN (entG l)) p) = zAt (costZ l) (sn (orderN (entG l)) p)
theorem sn_lt (l : List Ent) (ho : (orderN (entG l)).length = (innerN l).length) {p : Nat} (hp : p < (innerN l).length) : sn (orderN (entG l)) p < (innerN l).length := by
  have h := (orderN_good (entG l)).bound (sn (orderN (entG l)) p) (by
    unfold sn
    rw [List.getD_eq_getElem?_getD, List.getElem?_eq_getElem (by omega)]
    exact List.getElem_mem _)
  rw [show (entG l).length = (innerN l).length by unfold entG; simp] at h
  exact h
theorem take_place (l : List Ent) (ho : (orderN (entG l)).length = (innerN l).length) {k j : Nat} (hj : j ∈ (orderN (entG l)).take k) : ∃ p, p < k ∧ p < (innerN l).length ∧ sn (orderN (entG l)) p = j := by
  obtain ⟨p, hp, he⟩ := List.getElem_of_mem hj
  rw [List.length_take] at hp
  refine ⟨p, by omega, by omega, ?_⟩
  rw [List.getElem_take] at he
  unfold sn
  rw [List.getD_eq_getElem?_getD, List.getElem?_eq_getElem (by omega), he]; rfl
/-- What a text needs is right. -/
theorem text_right (l : List Ent) (ho : (orderN (entG l)).length = (innerN l).length) {zs : List Sz} {k p : Nat} (h : RightTo l zs k) (hp : p ≤ k) (hpn : p < (innerN l).length) :
    sizeT (refF (lookF (innerN l) zs)) (bsOf (entD (innerN l) (sn (orderN (entG l)) p)).tx) = sizeT (refF (lookF (innerN l) (costZ l))) (bsOf (entD (innerN l) (sn (orderN (entG l)) p)).tx) := by
  refine sizeT_congr fun r hr => refF_congr ?_
  unfold lookF
  by_cases hh : hasT ((innerN l).map Ent.na) (strOfNums r.s) = true
  · rw [if_pos hh, if_pos hh]
    have h1 := ref_row (sn_lt l ho hpn) hr hh
    have h2 := ((orderN_good (entG l)).newAt (m := p) (by omega)).2 _ h1
    obtain ⟨q, hq, hqn, he⟩ := take_place l ho h2
    have h3 := h q (by omega) hqn
    rw [he] at h3
    exact congrArg some h3
  · rw [if_neg hh, if_neg hh]
/-- What stands behind k steps of the order. -/
def valAt (l : List Ent) (p : Nat) : Sz := sizeT (refF (runZ (innerN l) ((orderN (entG l)).take p)).1) (bsOf (entD (innerN l) (sn (orderN (entG l)) p)).tx)
structure RunAt (l : List Ent) (k : Nat) : Prop where
  look : ∀ y, (runZ (innerN l) ((orderN (entG l)).take k)).1 y = if hasT ((innerN l).map Ent.na) y = true ∧ idxT ((innerN l).map Ent.na) y ∈ (orderN (entG l)).take k then some (zAt (runZ (innerN l) ((orderN (entG l)).take k)).2 (idxT ((innerN l).map Ent.na) y)) else none
  val : ∀ p, p < k → zAt (runZ (innerN l) ((orderN (entG l)).take k)).2 (sn (orderN (entG l)) p) = valAt l p
theorem runAt (l : List Ent) (ho : (orderN (entG l)).length = (innerN l).length) : ∀ k, k ≤ (innerN l).length → RunAt l k := by
  intro k
  induction k with
  | zero =>
    intro _
    refine ⟨fun y => ?_, fun p hp => by omega⟩
    rw [if_neg (by simp)]
    rfl
  | succ k ih =>
    intro hk
    have h := ih (by omega)
    have hx : (orderN (entG l))[k]? = some (sn (orderN (entG l)) k) := by
      unfold sn
      rw [List.getD_eq_getElem?_getD, List.getElem?_eq_getElem (by omega)]; rfl
    have hi := sn_lt l ho (p := k) (by omega)
    obtain ⟨n1, n2⟩ := idx_name hi
    have hnew := ((orderN_good (entG l)).newAt (m := k) (by omega)).1
    have hlen := runZ_len (inn := innerN l) ((orderN (entG l)).take k)
    have htake : (orderN (entG l)).take (k + 1) = (orderN (entG l)).take k ++ [sn (orderN (entG l)) k] := by rw [List.take_add_one, hx]; rfl
    have hap := (orderN_good (entG l)).apart
    have hv : valAt l k = sizeT (refF (runZ (innerN l) ((orderN (entG l)).take k)).1) (bsOf (entD (innerN l) (sn (orderN (entG l)) k)).tx) := rfl
    constructor
    · intro y
      rw [runZ_next hx, htake]
      unfold stepR
      dsimp only
      rw [← hv]
      unfold putF
      by_cases e : y = (entD (innerN l) (sn (orderN (entG l)) k)).na
      · subst e
        rw [if_pos rfl, if_pos ⟨n1, by rw [n2]; simp⟩, n2, zAt_set (by rw [hlen]; exact hi), if_pos rfl]
      · rw [if_neg e, h.look y]
        by_cases hh : hasT ((innerN l).map Ent.na) y = true
        · have hne : ¬ idxT ((innerN l).map Ent.na) y = sn (orderN (entG l)) k := by
            intro e2
            have g1 := idxT_is hh
            have g2 := idxT_is n1
            rw [n2] at g2
            rw [e2, g2] at g1
            exact e (Option.some.inj g1).symm
          by_cases hm : idxT ((innerN l).map Ent.na) y ∈ (orderN (entG l)).take k
          · rw [if_pos ⟨hh, hm⟩, if_pos ⟨hh, List.mem_append_left _ hm⟩, zAt_set (by rw [hlen]; exact hi), if_neg (fun e3 => hne e3.symm)]
          · rw [if_neg (fun h3 => hm h3.2), if_neg (fun h3 => by
              rcases List.mem_append.1 h3.2 with h4 | h4
              · exact hm h4
              · exact hne (by simpa using h4))]
        · rw [if_neg (fun h3 => hh h3.1), if_neg (fun h3 => hh h3.1)]
    · intro p hp
      rw [runZ_next hx]
      unfold stepR
      dsimp only
      rw [← hv, zAt_set (by rw [hlen]; exact hi)]
      by_cases e : p = k
      · subst e; rw [if_pos rfl]
      · rw [if_neg (fun e2 => e (hap p k (by omega) (by omega) e2.symm)), h.val p (by omega)]
theorem costF_look (l : List Ent) (ho : (orderN (entG l)).length = (innerN l).length) : costF l = lookF (innerN l) (costZ l) := by
  have h := runAt l ho (innerN l).length (Nat.le_refl _)
  have e : (orderN (entG l)).take (innerN l).length = orderN (entG l) := List.take_of_length_le (by omega)
  funext y
  have h1 := h.look y
  rw [e] at h1
  unfold costF lookF costZ
  rw [h1]
  by_cases hh : hasT ((innerN l).map Ent.na) y = true
  · have hlt := idxT_lt hh
    rw [List.length_map] at hlt
    have hG : (entG l).length = (innerN l).length := by unfold entG; simp
    rw [if_pos ⟨hh, (orderN_good (entG l)).full (by omega) _ (by omega)⟩, if_pos hh]
    rfl
  · rw [if_neg (fun h3 => hh h3.1), if_neg hh]
theorem val_right (l : List Ent) (ho : (orderN (entG l)).length = (innerN l).length) {p : Nat} (hp : p < (innerN l).length) : zAt (costZ l) (sn (orderN (entG l)) p) = sizeT (refF (lookF (innerN l) (costZ l))) (bsOf (entD (innerN l) (sn (orderN (entG l)) p)).tx) := by
  have h := runAt l ho (innerN l).length (Nat.le_refl _)
  have e : (orderN (entG l)).take (innerN l).length = orderN (entG l) := List.take_of_length_le (by omega)
  have h1 := h.val p hp
  rw [e] at h1
  have h2 := runAt l ho p (by omega)
  show zAt (runZ (innerN l) (orderN (entG l))).2 _ = _
  rw [h1]
  unfold valAt
  refine sizeT_congr fun r hr => refF_congr ?_
  rw [h2.look]
  unfold lookF
  by_cases hh : hasT ((innerN l).map Ent.na) (strOfNums r.s) = true
  · have g1 := ref_row (sn_lt l ho hp) hr hh
    have g2 := ((orderN_good (entG l)).newAt (m := p) (by omega)).2 _ g1
    rw [if_pos ⟨hh, g2⟩, if_pos hh]
    obtain ⟨q, hq, hqn, he⟩ := take_place l ho g2
    have g3 := h2.val q hq
    have g4 := h.val q hqn
    rw [e] at g4
    rw [he] at g3 g4
    rw [g3]
    exact congrArg some g4.symm
  · rw [if_neg (fun h3 => hh h3.1), if_neg hh]
/-- One reckoning of one place; of all; again and again. -/
def reckon (inn : List Ent) (zs : List Sz) (i : Nat) : List Sz := zs.set i (rtext (lookF inn zs) (bsOf (entD inn i).tx))
def reckTo (inn : List Ent) (zs : List Sz) (i : Nat) : List Sz := (List.range i).foldl (reckon inn) zs
def reckAll (inn : List Ent) : Nat → List Sz
  | 0 => List.replicate inn.length zero3
  | q + 1 => reckTo inn (reckAll inn q) inn.length
theorem reckTo_next (inn : List Ent) (zs : List Sz) (i : Nat) : reckTo inn zs (i + 1) = reckon inn (reckTo inn zs i) i := by
  unfold reckTo; rw [List.range_succ, List.foldl_append]; rfl
theorem reckTo_len (inn : List Ent) (zs : List Sz) : ∀ i, (reckTo inn zs i).length = zs.length := by
  intro i
  induction i with
  | zero => rfl
  | succ i ih => rw [reckTo_next]; unfold reckon; rw [List.length_set, ih]
theorem reckAll_len (inn : List Ent) : ∀ q, (reckAll inn q).length = inn.length := by
  intro q
  induction q with
  | zero => simp [reckAll]
  | succ q ih => show (reckTo _ _ _).length = _; rw [reckTo_len, ih]
theorem reckTo_right (l : List Ent) (ho : (orderN (entG l)).length = (innerN l).length) (hs : ∀ i, (bsOf (entD (innerN l) i).tx).length ≤ MX) {zs : List Sz} {k : Nat} (hz : zs.length = (innerN l).length) (h : RightTo l zs k) : ∀ i, i ≤ (innerN l).length →
    RightTo l (reckTo (innerN l) zs i) k ∧ (k < (innerN l).length → sn (orderN (entG l)) k < i → zAt (reckTo (innerN l) zs i) (sn (orderN (entG l)) k) = zAt (costZ l) (sn (orderN (entG l)) k)) := by
  intro i
  induction i with
  | zero => intro _; exact ⟨h, fun _ h2 => by omega⟩
  | succ i ih =>
    intro hi
    obtain ⟨h1, h2⟩ := ih (by omega)
    have hlen : (reckTo (innerN l) zs i).length = (innerN l).length := by rw [reckTo_len, hz]
    have hG : (entG l).length = (innerN l).length := by unfold entG; simp
    obtain ⟨p, hp, hpi⟩ : ∃ p, p < (innerN l).length ∧ sn (orderN (entG l)) p = i := by
      have := (orderN_good (entG l)).full (by omega) i (by omega)
      obtain ⟨p, hp1, hp2, hp3⟩ := take_place l ho (k := (orderN (entG l)).length) (by rw [List.take_length]; exact this)
      exact ⟨p, hp2, hp3⟩
    have hval : p ≤ k → rtext (lookF (innerN l) (reckTo (innerN l) zs i)) (bsOf (entD (innerN l) i).tx) = zAt (costZ l) i := by
      intro hpk
      have tr := text_right l ho h1 hpk hp
      have vr := val_right l ho hp
      rw [hpi] at tr vr
      rw [rtext_eq _ _ (hs i), tr, vr]
    rw [reckTo_next]
    unfold reckon
    have hap := (orderN_good (entG l)).apart
    refine ⟨fun q hq hqn => ?_, fun hk hki => ?_⟩
    · rw [zAt_set (by omega)]
      by_cases e : i = sn (orderN (entG l)) q
      · rw [if_pos e]
        have : p = q := hap p q (by omega) (by omega) (hpi.trans e)
        rw [hval (by omega), e]
      · rw [if_neg e]; exact h1 q hq hqn
    · rw [zAt_set (by omega)]
      by_cases e : i = sn (orderN (entG l)) k
      · rw [if_pos e]
        have : p = k := hap p k (by omega) (by omega) (hpi.trans e)
        rw [hval (by omega), e]
      · rw [if_neg e]; exact h2 hk (by omega)
theorem reckAll_right (l : List Ent) (ho : (orderN (entG l)).length = (innerN l).length) (hs : ∀ i, (bsOf (entD (innerN l) i).tx).length ≤ MX) : ∀ q, RightTo l (reckAll (innerN l) q) q := by
  intro q
  induction q with
  | zero => intro p hp; omega
  | succ q ih =>
    intro p hp hpn
    have h := reckTo_right l ho hs (reckAll_len (innerN l) q) ih (innerN l).length (Nat.le_refl _)
    by_cases e : p = q
    · subst e; exact h.2 hpn (sn_lt l ho hpn)
    · exact h.1 p (by omega) hpn
/-- Behind as many rounds as there are entities, all sizes are those of the order. -/
theorem reckAll_same (l : List Ent) (ho : (orderN (entG l)).length = (innerN l).length) (hs : ∀ i, (bsOf (entD (innerN l) i).tx).length ≤ MX) {q : Nat} (hq : (innerN l).length ≤ q) : reckAll (innerN l) q = costZ l := by
  have h := reckAll_right l ho hs q
  have hG : (entG l).length = (innerN l).length := by unfold entG; simp
  have l1 := reckAll_len (innerN l) q
  have l2 : (costZ l).length = (innerN l).length := runZ_len _
  refine List.ext_getElem (by omega) fun i h1 h2 => ?_
  have := (orderN_good (entG l)).full (by omega) i (by omega)
  obtain ⟨p, hp1, hp2, hp3⟩ := take_place l ho (k := (orderN (entG l)).length) (by rw [List.take_length]; exact this)
  have h3 := h p (by omega) hp2
  rw [hp3] at h3
  unfold zAt at h3
  rw [List.getD_eq_getElem?_getD, List.getD_eq_getElem?_getD, List.getElem?_eq_getElem h1, List.getElem?_eq_getElem h2] at h3
  exact h3
end Go.Proofs.YtkeclfhhilphpaaDoor
/- The document's size of a text, walked. Conditions: the sizes known are no more than the greatest number. -/
namespace Go.Proofs.YtkeclfhhilphpaaDoor
open Go.RowKit Go.Maps Go.Proofs.YtkeclfhhilphpaaDoor.RefPlain Go.Proofs.YtkeclfhhilphpaaDoor.GraphPlain
set_option linter.unusedVariables false
set_option linter.unusedSimpArgs false
/-- A row of sizes in memory. -/
def SzAt (w : World) (A : Option Addr) (n : Nat) (zs : List Sz) : Prop := zs.length = n ∧ ∀ i, i < n → ∃ a z, A = some a ∧ zs[i]? = some z ∧ a.block < w.heap.size ∧ w.cell? (a.add (i * 3)) = some (.int .i64 z.c) ∧ w.cell? ⟨(a.add (i * 3)).block, (a.add (i * 3)).off + 1, none⟩ = some (.int .i64 z.l) ∧ w.cell? ⟨(a.add (i * 3)).block, (a.add (i * 3)).off + 2, none⟩ = some (.int .i64 z.d)
theorem SzAt.below {w w' : World} {A : Option Addr} {n : Nat} {zs : List Sz} (h : SzAt w A n zs) (hb : Below w.heap.size w w') : SzAt w' A n zs :=
  ⟨h.1, fun i hi => by
    obtain ⟨a, z, h1, h2, h3, h4, h5, h6⟩ := h.2 i hi
    have hl : (a.add (i * 3)).block < w.heap.size := by rw [addBlock]; exact h3
    exact ⟨a, z, h1, h2, Nat.lt_of_lt_of_le h3 hb.size, (hb.cell hl).trans h4, (hb.cell (p := ⟨(a.add (i * 3)).block, _, none⟩) hl).trans h5, (hb.cell (p := ⟨(a.add (i * 3)).block, _, none⟩) hl).trans h6⟩⟩
theorem racc_ge (f : SzF) {bs : List Int} (hn : bs.length ≤ MX) {k : Nat} {x : RefR} (h : (refsN bs)[k]? = some x) : x.b - x.a ≤ (racc f bs ((refsN bs).take k)).1 := by
  obtain ⟨h1, h2, h3⟩ := acc_at (refF f) bs h
  obtain ⟨tc, tl, pl, e1, e2, e3, e4, e5, e6, e7⟩ := (both_all f bs hn k).ex
  omega
structure ROut (w1 w : World) (ob : Nat) (z : Sz) : Prop where
  below : Below w1.heap.size w1 w
  blk : Blk3 w ob 38 (.int .i64 z.c) (.int .i64 z.l) (.int .i64 z.d)
  base : w1.heap.size ≤ ob
theorem ROut.later {w1 w w' : World} {ob : Nat} {z : Sz} (h : ROut w1 w ob z) (hb : Below w.heap.size w w') : ROut w1 w' ob z := ⟨h.below.trans (hb.mono h.below.size), h.blk.later hb, h.base⟩
theorem ROut.set0 {w1 w : World} {ob : Nat} {z : Sz} (h : ROut w1 w ob z) (u : Nat) : ROut w1 (w.setCell ⟨ob, 0, none⟩ (.int .i64 u)) ob ⟨u, z.l, z.d⟩ := ⟨h.below.setCell (p := ⟨ob, 0, none⟩) h.base _, h.blk.set0 _, h.base⟩
theorem ROut.set1 {w1 w : World} {ob : Nat} {z : Sz} (h : ROut w1 w ob z) (u : Nat) : ROut w1 (w.setCell ⟨ob, 1, none⟩ (.int .i64 u)) ob ⟨z.c, u, z.d⟩ := ⟨h.below.setCell (p := ⟨ob, 1, none⟩) h.base _, h.blk.set1 _, h.base⟩
theorem ROut.set2 {w1 w : World} {ob : Nat} {z : Sz} (h : ROut w1 w ob z) (u : Nat) : ROut w1 (w.setCell ⟨ob, 2, none⟩ (.int .i64 u)) ob ⟨z.c, z.l, u⟩ := ⟨h.below.setCell (p := ⟨ob, 2, none⟩) h.base _, h.blk.set2 _, h.base⟩
theorem radd_nat (a b : Nat) (w : World) (ha : (a : Int) ≤ 9223372036854775807) (hb : (b : Int) ≤ 9223372036854775807) : Calls Tryd.prog 31 #[.int .i64 (a : Int), .int .i64 (b : Int)] w (RetI (addM a b : Nat) w) := by
  have h := radd_any (a : Int) (b : Int) w ha hb
  rwa [addS_nat] at h
set_option maxRecDepth 100000 in
set_option maxHeartbeats 8000000 in
theorem rtext_any (A : Option Addr) (n c : Nat) (inn : List Ent) (Az : Option Addr) (cz : Nat) (zs : List Sz) (s : ByteArray) (m : Nat) (w : World) (hl : EntsAt w A n inn) (hn : n ≤ 1048576) (hz : SzAt w Az n zs) (hm : ∀ z ∈ zs, z.upto m) (hm2 : m + 1 ≤ MX) (hs : s.size ≤ 1048576) :
    Calls Tryd.prog 22 #[.slice A n c, .slice Az n cz, .string s] w (TellSz (rtext (lookF inn zs) (bsOf s)) w) := by
  have hbl : (bsOf s).length = s.size := bsOf_len s
  have hMX : (bsOf s).length ≤ MX := by rw [hbl]; unfold MX; omega
  have hok : okF (lookF inn zs) m := by
    intro y z hy
    unfold lookF at hy
    by_cases hh : hasT (inn.map Ent.na) y = true
    · rw [if_pos hh] at hy
      have hlt := idxT_lt hh
      rw [List.length_map, hl.1, ← hz.1] at hlt
      rw [List.getD_eq_getElem?_getD, List.getElem?_eq_getElem hlt] at hy
      rw [← Option.some.inj hy]
      exact hm _ (List.getElem_mem _)
    · rw [if_neg hh] at hy; cases hy
  obtain ⟨W, hW, hsW, hBW, b0⟩ := oneWorld w 38 (.int .i64 0) (.int .i64 0) (.int .i64 0)
  have C := Lib.hid (rall18_any s W hs)
  have B0 := Lib.hid b0
  have HBW := Lib.hid hBW
  have EL := Lib.hid (hl.below hBW)
  have ZL := Lib.hid (hz.below hBW)
  have HZL := Lib.hid hz.1
  have HIL := Lib.hid hl.1
  have OK := Lib.hid hok
  have HX := Lib.hid hMX
  have HBL := Lib.hid hbl
  have HSW := Lib.hid hsW
  clear hl hz hm hok hMX hbl b0 hBW hsW
  go_enter Tryd.func22, Tryd.ntmps22
  go_wp2_with fail
  refine C.out.mono ?_
  rintro e w1 ⟨A7, c7, rfl, hR, hB⟩
  have RR := Lib.hid hR
  have E1 := Lib.hid (EL.out.below hB)
  have Z1 := Lib.hid (ZL.out.below hB)
  have H1 := Lib.hid (HBW.out.trans (hB.mono (by have := HSW.out; omega)))
  have R1 := Lib.hid (B0.out.later hB)
  have hlt1 : w.heap.size < w1.heap.size := by have := hB.size; have := HSW.out; omega
  go_upto_region 4 with (fail)
  obtain ⟨W3, hW3, hsW3, hBW3, b3⟩ := oneWorld w1 38 (.int .i64 s.size) (.int .i64 0) (.int .i64 0)
  have RO := Lib.hid (⟨hBW3, b3, Nat.le_refl _⟩ : ROut w1 W3 w1.heap.size ⟨s.size, 0, 0⟩)
  rw [hW3]
  clear hR hB hBW3 b3 hsW3 hW3 EL ZL C B0 HBW
  have hln : (refsN (bsOf s)).length ≤ 1048576 := by have := refsN_len (bsOf s); have := HBL.out; omega
  have AT := Lib.hid (show ∀ k x, (refsN (bsOf s))[k]? = some x → x.a ≤ x.b ∧ x.b ≤ s.size ∧ x.b - x.a ≤ (racc (lookF inn zs) (bsOf s) ((refsN (bsOf s)).take k)).1 ∧ (racc (lookF inn zs) (bsOf s) ((refsN (bsOf s)).take k)).2.upto (m + 1) ∧ (racc (lookF inn zs) (bsOf s) ((refsN (bsOf s)).take k)).1 ≤ s.size + k ∧
      racc (lookF inn zs) (bsOf s) ((refsN (bsOf s)).take (k + 1)) = rstep (lookF inn zs) (racc (lookF inn zs) (bsOf s) ((refsN (bsOf s)).take k)) x from
    fun k x hx => by
      obtain ⟨h1, h2, h3⟩ := acc_at (refF (lookF inn zs)) (bsOf s) hx
      obtain ⟨g1, g2⟩ := racc_bound (bsOf s) OK.out HX.out k
      exact ⟨h2, by have := HBL.out; omega, racc_ge _ HX.out hx, g1, by have := HBL.out; omega, racc_next hx⟩)
  have AE := Lib.hid (show rtext (lookF inn zs) (bsOf s) = ⟨(racc (lookF inn zs) (bsOf s) ((refsN (bsOf s)).take (refsN (bsOf s)).length)).2.c, addM (racc (lookF inn zs) (bsOf s) ((refsN (bsOf s)).take (refsN (bsOf s)).length)).2.l (racc (lookF inn zs) (bsOf s) ((refsN (bsOf s)).take (refsN (bsOf s)).length)).1, (racc (lookF inn zs) (bsOf s) ((refsN (bsOf s)).take (refsN (bsOf s)).length)).2.d⟩ ∧
      (racc (lookF inn zs) (bsOf s) ((refsN (bsOf s)).take (refsN (bsOf s)).length)).2.upto (m + 1) ∧ (racc (lookF inn zs) (bsOf s) ((refsN (bsOf s)).take (refsN (bsOf s)).length)).1 ≤ 2097152 from by
    obtain ⟨g1, g2⟩ := racc_bound (bsOf s) OK.out HX.out (refsN (bsOf s)).length
    refine ⟨by rw [List.take_length]; rfl, g1, ?_⟩
    have := HBL.out
    omega)
  have P0 : racc (lookF inn zs) (bsOf s) ((refsN (bsOf s)).take 0) = (s.size, ⟨s.size, 0, 0⟩) := by
    show ((bsOf s).length, (⟨(bsOf s).length, 0, 0⟩ : Sz)) = _
    rw [HBL.out]
  have QQ := Lib.hid P0
  generalize hacc : (fun k => racc (lookF inn zs) (bsOf s) ((refsN (bsOf s)).take k)) = acc at *
  have hak : ∀ k, racc (lookF inn zs) (bsOf s) ((refsN (bsOf s)).take k) = acc k := fun k => by rw [← hacc]
  simp only [hak] at AT AE QQ
  clear hacc hak P0
  generalize refsN (bsOf s) = l at *
  go_wp2_with fail
  go_loopw [8, 10] (fun v8 v10 wr => ∃ (k : Nat), k ≤ l.length ∧ v10 = .int .i64 k ∧ (∃ q : Nat, v8 = .int .i64 q ∧ Hid (q = (acc k).1)) ∧ Hid (ROut w1 wr w1.heap.size (acc k).2)) (fun _ v10 _ => l.length - (intOf v10).toNat)
  case atStart => exact ⟨0, Nat.zero_le _, rfl, ⟨s.size, rfl, Lib.hid (by rw [QQ.out])⟩, Lib.hid (by rw [QQ.out]; exact RO.out)⟩
  case round =>
    obtain ⟨k, hk, rfl, ⟨q, rfl, HQ⟩, HO⟩ := hrel
    by_cases hlt : k < l.length
    · have hx : l[k]? = some l[k] := List.getElem?_eq_getElem hlt
      obtain ⟨a, x, rfl, hx2, hblk, g0, g1, g2⟩ := (RR.out.below HO.out.below).2 k hlt
      obtain ⟨f1, f2, f3, f4, f5, f6⟩ := AT.out k x hx2
      rw [← HQ.out] at f3 f5
      have HF6 := Lib.hid f6
      have b0 : (0 : Int) ≤ (k : Int) := by omega
      have b1 : (k : Int) < (l.length : Int) := by omega
      have F := find_any A n c inn (strOfNums x.s) wr (E1.out.below HO.out.below) hn
      have HO2 := HO.out
      generalize hok2 : (acc k).2 = o2 at HO2 f4
      obtain ⟨oc, ol, od⟩ := o2
      have HK2 := Lib.hid hok2
      have HR := Lib.hid HO2
      have e1 : (x.b : Int) - (x.a : Int) = ((x.b - x.a : Nat) : Int) := by omega
      have e2 : (q : Int) - ((x.b - x.a : Nat) : Int) = ((q - (x.b - x.a) : Nat) : Int) := by omega
      have xw : IntKind.i64.wrap ((x.b - x.a : Nat) : Int) = ((x.b - x.a : Nat) : Int) := by simp only [IntKind.wrap, IntKind.bits, IntKind.signed]; simp; omega
      have xw2 : IntKind.i64.wrap ((q - (x.b - x.a) : Nat) : Int) = ((q - (x.b - x.a) : Nat) : Int) := by simp only [IntKind.wrap, IntKind.bits, IntKind.signed]; simp; omega
      cases hh : hasT (inn.map Ent.na) (strOfNums x.s) with
      | true =>
        have hlt2 := idxT_lt hh
        rw [List.length_map, HIL.out] at hlt2
        have hfe := findE_hasT.1 hh
        obtain ⟨az, z, rfl, hzz, hzb, y0, y1, y2⟩ := Z1.out.2 (idxT (inn.map Ent.na) (strOfNums x.s)) hlt2
        have hzb2 : (az.add (idxT (inn.map Ent.na) (strOfNums x.s) * 3)).block < w1.heap.size := by rw [addBlock]; exact hzb
        have ZC := Lib.hid (fun V (hb : Below w1.heap.size w1 V) => (⟨(hb.cell hzb2).trans y0, (hb.cell (p := ⟨(az.add (idxT (inn.map Ent.na) (strOfNums x.s) * 3)).block, _, none⟩) hzb2).trans y1, (hb.cell (p := ⟨(az.add (idxT (inn.map Ent.na) (strOfNums x.s) * 3)).block, _, none⟩) hzb2).trans y2⟩ :
          V.cell? (az.add (idxT (inn.map Ent.na) (strOfNums x.s) * 3)) = some (.int .i64 z.c) ∧ V.cell? ⟨(az.add (idxT (inn.map Ent.na) (strOfNums x.s) * 3)).block, (az.add (idxT (inn.map Ent.na) (strOfNums x.s) * 3)).off + 1, none⟩ = some (.int .i64 z.l) ∧ V.cell? ⟨(az.add (idxT (inn.map Ent.na) (strOfNums x.s) * 3)).block, (az.add (idxT (inn.map Ent.na) (strOfNums x.s) * 3)).off + 2, none⟩ = some (.int .i64 z.d)))
        have hlk : lookF inn zs (strOfNums x.s) = some z := by
          unfold lookF
          rw [if_pos hh, List.getD_eq_getElem?_getD, hzz]; rfl
        have hzo := OK.out _ _ hlk
        have HS := Lib.hid (show rstep (lookF inn zs) (q, ⟨oc, ol, od⟩) x = (q - (x.b - x.a), ⟨addM oc z.c, addM ol z.l, max od (z.d + 1)⟩) from by unfold rstep; rw [hlk])
        rw [hfe] at F
        generalize idxT (inn.map Ent.na) (strOfNums x.s) = i at *
        have F2 := Lib.hid F
        clear F
        have b2 : (0 : Int) ≤ (i : Int) := by omega
        have b3 : (i : Int) < (n : Int) := by omega
        obtain ⟨zo1, zo2, zo3⟩ := hzo
        obtain ⟨fo1, fo2, fo3⟩ := f4
        have A1 := Lib.hid (fun V => radd_nat oc z.c V (MX_int fo1) (MX_int zo1))
        have A2 := Lib.hid (fun V => radd_nat ol z.l V (MX_int fo2) (MX_int zo2))
        have zd1 : (z.d : Int) + 1 ≤ 9223372036854775807 := by have := MX_int (n := z.d + 1) (by omega); omega
        have zw : IntKind.i64.wrap ((z.d : Int) + 1) = (z.d : Int) + 1 := by simp only [IntKind.wrap, IntKind.bits, IntKind.signed]; simp; omega
        clear hx hx2 hblk f1 f2 f3 f5 f6 hok2 HO2 hlt2 hfe hzz hzb hzb2 y0 y1 y2 hlk hh zo1 zo2 zo3 fo1 fo2 fo3
        go_wp2_with fail
        refine F2.out.mono ?_
        rintro e w' ⟨rfl, rfl⟩
        go_wp2_with fail
        go_quiet (fail)
        have H9 := Lib.hid (HR.out.later (w' := wr.drewN nq) ⟨rfl, rfl, rfl, Nat.le_refl _, fun _ _ => rfl⟩)
        clear g0 g1 g2
        generalize wr.drewN nq = W9 at *
        have Hd := H9.out.later (Below.refl _ W9).drew
        have j0 := Hd.blk.c0
        have j1 := (ZC.out _ Hd.below).1
        have m0 := Hd.blk.m0
        have HN := Lib.hid (Hd.set0 (addM oc z.c))
        clear Hd
        go_upto_region 10 with (fail)
        refine wp_region_late [(9, fun V => V.cell? ⟨w1.heap.size, 0, none⟩ = some (.int .i64 oc) ∧ V.cell? (az.add (i * 3)) = some (.int .i64 z.c))] (by kernel_rfl) ⟨.inr ⟨j0, j1⟩, trivial⟩ (fun hC0 => ?_)
        --REG narthex/narthexref20.text:10 0 1@0 2 3 4 5 6@0
        refine wpAnyL_pure (i := 0) (oi := ({ dst := some 46, op := Op.fieldAddr 38 (Operand.tmp 9) 0, type := 0, pos := "ref.go:36", after := #[], guard := none } : Oper)) (v := ?_) rfl (by kernel_rfl) (by kernel_rfl) (by kernel_rfl) (by kernel_rfl) (fun _ _ _ h => h) (Or.inl ⟨by rfl, ?_⟩) (by assumption) (by kernel_rfl) ?_
        rotate_left 1
        · intro w hSw; clear hSw; go_simp; try with_reducible rfl
        (try simp only [Act.put, List.setIfInBounds_toArray, List.set_cons_zero, List.set_cons_succ])
        refine wpAnyL_take (i := 1) 0 (oi := ({ dst := some 47, op := Op.load 3 (Operand.tmp 46), type := 3, pos := "ref.go:36", after := #[{ on := 0, ground := Ground.data }], guard := none } : Oper)) (v := ?_) rfl (by kernel_rfl) (by kernel_rfl) (by kernel_rfl) rfl (by kernel_rfl) (by kernel_rfl) (by kernel_rfl) (fun _ _ _ h => h) (Or.inl ⟨by rfl, ?_⟩) (by assumption) (by kernel_rfl) ?_
        rotate_left 1
        · intro w hSw; (try dsimp only at hSw); go_simp; try with_reducible rfl
        (try simp only [Act.put, List.setIfInBounds_toArray, List.set_cons_zero, List.set_cons_succ])
        refine wpAnyL_pure (i := 2) (oi := ({ dst := some 48, op := Op.move (Operand.tmp 1), type := 35, pos := "ref.go:36", after := #[], guard := none } : Oper)) (v := ?_) rfl (by kernel_rfl) (by kernel_rfl) (by kernel_rfl) (by kernel_rfl) (fun _ _ _ h => h) (Or.inl ⟨by rfl, ?_⟩) (by assumption) (by kernel_rfl) ?_
        rotate_left 1
        · intro w hSw; clear hSw; go_simp; try with_reducible rfl
        (try simp only [Act.put, List.setIfInBounds_toArray, List.set_cons_zero, List.set_cons_succ])
        refine wpAnyL_pure (i := 3) (oi := ({ dst := some 49, op := Op.move (Operand.tmp 11), type := 3, pos := "ref.go:36", after := #[], guard := none } : Oper)) (v := ?_) rfl (by kernel_rfl) (by kernel_rfl) (by kernel_rfl) (by kernel_rfl) (fun _ _ _ h => h) (Or.inl ⟨by rfl, ?_⟩) (by assumption) (by kernel_rfl) ?_
        rotate_left 1
        · intro w hSw; clear hSw; go_simp; try with_reducible rfl
        (try simp only [Act.put, List.setIfInBounds_toArray, List.set_cons_zero, List.set_cons_succ])
        refine wpAnyL_pure (i := 4) (oi := ({ dst := some 50, op := Op.indexAddr 35 (Operand.tmp 48) (Operand.tmp 49), type := 0, pos := "ref.go:36", after := #[{ on := 2, ground := Ground.data }, { on := 3, ground := Ground.data }], guard := none } : Oper)) (v := ?_) rfl (by kernel_rfl) (by kernel_rfl) (by kernel_rfl) (by kernel_rfl) (fun _ _ _ h => h) (Or.inl ⟨by rfl, ?_⟩) (by assumption) (by kernel_rfl) ?_
        rotate_left 1
        · intro w hSw; clear hSw; go_simp; try with_reducible rfl
        (try simp only [Act.put, List.setIfInBounds_toArray, List.set_cons_zero, List.set_cons_succ])
        refine wpAnyL_pure (i := 5) (oi := ({ dst := some 51, op := Op.fieldAddr 38 (Operand.tmp 50) 0, type := 0, pos := "ref.go:36", after := #[{ on := 4, ground := Ground.data }], guard := none } : Oper)) (v := ?_) rfl (by kernel_rfl) (by kernel_rfl) (by kernel_rfl) (by kernel_rfl) (fun _ _ _ h => h) (Or.inl ⟨by rfl, ?_⟩) (by assumption) (by kernel_rfl) ?_
        rotate_left 1
        · intro w hSw; clear hSw; go_simp; try with_reducible rfl
        (try simp only [Act.put, List.setIfInBounds_toArray, List.set_cons_zero, List.set_cons_succ])
        refine wpAnyL_take (i := 6) 0 (oi := ({ dst := some 52, op := Op.load 3 (Operand.tmp 51), type := 3, pos := "ref.go:36", after := #[{ on := 5, ground := Ground.data }], guard := none } : Oper)) (v := ?_) rfl (by kernel_rfl) (by kernel_rfl) (by kernel_rfl) rfl (by kernel_rfl) (by kernel_rfl) (by kernel_rfl) (fun _ _ _ h => h) (Or.inl ⟨by rfl, ?_⟩) (by assumption) (by kernel_rfl) ?_
        rotate_left 1
        · intro w hSw; (try dsimp only at hSw); go_simp; try with_reducible rfl
        (try simp only [Act.put, List.setIfInBounds_toArray, List.set_cons_zero, List.set_cons_succ])
        --END
        refine wpAnyL_ready (rs := [7]) (by kernel_rfl) (by simp) ?_
        refine AllReadyL.cons (o := _) rfl (fun K hK => ?_) AllReadyL.nil
        go_simp
        refine (A1.out _).mono ?_
        rintro e w' ⟨rfl, rfl⟩
        refine hK.out _ _ ⟨.inr ⟨j0, j1⟩, trivial⟩ (fun hC1 => ?_)
        clear hK K hC0
        (try simp only [Act.put, List.setIfInBounds_toArray, List.set_cons_zero, List.set_cons_succ])
        --REG narthex/narthexref20.text:10 8
        refine wpAnyL_pure (i := 8) (oi := ({ dst := some 54, op := Op.fieldAddr 38 (Operand.tmp 9) 0, type := 0, pos := "ref.go:36", after := #[{ on := 0, ground := Ground.phase }, { on := 1, ground := Ground.phase }, { on := 2, ground := Ground.phase }, { on := 3, ground := Ground.phase }, { on := 4, ground := Ground.phase }, { on := 5, ground := Ground.phase }, { on := 6, ground := Ground.phase }, { on := 7, ground := Ground.phase }], guard := none } : Oper)) (v := ?_) rfl (by kernel_rfl) (by kernel_rfl) (by kernel_rfl) (by kernel_rfl) (fun _ _ _ h => h) (Or.inl ⟨by rfl, ?_⟩) (by assumption) (by kernel_rfl) ?_
        rotate_left 1
        · intro w hSw; clear hSw; go_simp; try with_reducible rfl
        (try simp only [Act.put, List.setIfInBounds_toArray, List.set_cons_zero, List.set_cons_succ])
        --END
        refine wpAnyL_ready (rs := [9]) (by kernel_rfl) (by simp) ?_
        refine AllReadyL.cons (o := _) rfl (fun K hK => ?_) AllReadyL.nil
        go_simp
        refine hK.out _ _ ⟨.inl (by rfl), trivial⟩ (fun hC2 => ?_)
        clear hK K hC1
        (try simp only [Act.put, List.setIfInBounds_toArray, List.set_cons_zero, List.set_cons_succ])
        refine wpAnyL_done (by kernel_rfl) ?_ _
        have H10 : Hid (ROut w1 (W9.setCell ⟨w1.heap.size, 0, none⟩ (.int .i64 (addM oc z.c : Nat))).drew w1.heap.size _) := HN
        clear hC2 HN j0 j1 m0 H9
        generalize (W9.setCell ⟨w1.heap.size, 0, none⟩ (.int .i64 (addM oc z.c : Nat))).drew = W10 at *
        have Hd := H10.out.later (Below.refl _ W10).drew
        have j0 := Hd.blk.c1
        have j1 := (ZC.out _ Hd.below).2.1
        have m0 := Hd.blk.m1
        have HN := Lib.hid (Hd.set1 (addM ol z.l))
        clear Hd
        go_upto_region 11 with (fail)
        refine wp_region_late [(9, fun V => V.cell? ⟨w1.heap.size, 1, none⟩ = some (.int .i64 ol) ∧ V.cell? ⟨(az.add (i * 3)).block, (az.add (i * 3)).off + 1, none⟩ = some (.int .i64 z.l))] (by kernel_rfl) ⟨.inr ⟨j0, j1⟩, trivial⟩ (fun hC0 => ?_)
        --REG narthex/narthexref20.text:11 0 1@0 2 3 4 5 6@0
        refine wpAnyL_pure (i := 0) (oi := ({ dst := some 55, op := Op.fieldAddr 38 (Operand.tmp 9) 1, type := 0, pos := "ref.go:37", after := #[], guard := none } : Oper)) (v := ?_) rfl (by kernel_rfl) (by kernel_rfl) (by kernel_rfl) (by kernel_rfl) (fun _ _ _ h => h) (Or.inl ⟨by rfl, ?_⟩) (by assumption) (by kernel_rfl) ?_
        rotate_left 1
        · intro w hSw; clear hSw; go_simp; try with_reducible rfl
        (try simp only [Act.put, List.setIfInBounds_toArray, List.set_cons_zero, List.set_cons_succ])
        refine wpAnyL_take (i := 1) 0 (oi := ({ dst := some 56, op := Op.load 3 (Operand.tmp 55), type := 3, pos := "ref.go:37", after := #[{ on := 0, ground := Ground.data }], guard := none } : Oper)) (v := ?_) rfl (by kernel_rfl) (by kernel_rfl) (by kernel_rfl) rfl (by kernel_rfl) (by kernel_rfl) (by kernel_rfl) (fun _ _ _ h => h) (Or.inl ⟨by rfl, ?_⟩) (by assumption) (by kernel_rfl) ?_
        rotate_left 1
        · intro w hSw; (try dsimp only at hSw); go_simp; try with_reducible rfl
        (try simp only [Act.put, List.setIfInBounds_toArray, List.set_cons_zero, List.set_cons_succ])
        refine wpAnyL_pure (i := 2) (oi := ({ dst := some 57, op := Op.move (Operand.tmp 1), type := 35, pos := "ref.go:37", after := #[], guard := none } : Oper)) (v := ?_) rfl (by kernel_rfl) (by kernel_rfl) (by kernel_rfl) (by kernel_rfl) (fun _ _ _ h => h) (Or.inl ⟨by rfl, ?_⟩) (by assumption) (by kernel_rfl) ?_
        rotate_left 1
        · intro w hSw; clear hSw; go_simp; try with_reducible rfl
        (try simp only [Act.put, List.setIfInBounds_toArray, List.set_cons_zero, List.set_cons_succ])
        refine wpAnyL_pure (i := 3) (oi := ({ dst := some 58, op := Op.move (Operand.tmp 11), type := 3, pos := "ref.go:37", after := #[], guard := none } : Oper)) (v := ?_) rfl (by kernel_rfl) (by kernel_rfl) (by kernel_rfl) (by kernel_rfl) (fun _ _ _ h => h) (Or.inl ⟨by rfl, ?_⟩) (by assumption) (by kernel_rfl) ?_
        rotate_left 1
        · intro w hSw; clear hSw; go_simp; try with_reducible rfl
        (try simp only [Act.put, List.setIfInBounds_toArray, List.set_cons_zero, List.set_cons_succ])
        refine wpAnyL_pure (i := 4) (oi := ({ dst := some 59, op := Op.indexAddr 35 (Operand.tmp 57) (Operand.tmp 58), type := 0, pos := "ref.go:37", after := #[{ on := 2, ground := Ground.data }, { on := 3, ground := Ground.data }], guard := none } : Oper)) (v := ?_) rfl (by kernel_rfl) (by kernel_rfl) (by kernel_rfl) (by kernel_rfl) (fun _ _ _ h => h) (Or.inl ⟨by rfl, ?_⟩) (by assumption) (by kernel_rfl) ?_
        rotate_left 1
        · intro w hSw; clear hSw; go_simp; try with_reducible rfl
        (try simp only [Act.put, List.setIfInBounds_toArray, List.set_cons_zero, List.set_cons_succ])
        refine wpAnyL_pure (i := 5) (oi := ({ dst := some 60, op := Op.fieldAddr 38 (Operand.tmp 59) 1, type := 0, pos := "ref.go:37", after := #[{ on := 4, ground := Ground.data }], guard := none } : Oper)) (v := ?_) rfl (by kernel_rfl) (by kernel_rfl) (by kernel_rfl) (by kernel_rfl) (fun _ _ _ h => h) (Or.inl ⟨by rfl, ?_⟩) (by assumption) (by kernel_rfl) ?_
        rotate_left 1
        · intro w hSw; clear hSw; go_simp; try with_reducible rfl
        (try simp only [Act.put, List.setIfInBounds_toArray, List.set_cons_zero, List.set_cons_succ])
        refine wpAnyL_take (i := 6) 0 (oi := ({ dst := some 61, op := Op.load 3 (Operand.tmp 60), type := 3, pos := "ref.go:37", after := #[{ on := 5, ground := Ground.data }], guard := none } : Oper)) (v := ?_) rfl (by kernel_rfl) (by kernel_rfl) (by kernel_rfl) rfl (by kernel_rfl) (by kernel_rfl) (by kernel_rfl) (fun _ _ _ h => h) (Or.inl ⟨by rfl, ?_⟩) (by assumption) (by kernel_rfl) ?_
        rotate_left 1
        · intro w hSw; (try dsimp only at hSw); go_simp; try with_reducible rfl
        (try simp only [Act.put, List.setIfInBounds_toArray, List.set_cons_zero, List.set_cons_succ])
        --END
        refine wpAnyL_ready (rs := [7]) (by kernel_rfl) (by simp) ?_
        refine AllReadyL.cons (o := _) rfl (fun K hK => ?_) AllReadyL.nil
        go_simp
        refine (A2.out _).mono ?_
        rintro e w' ⟨rfl, rfl⟩
        refine hK.out _ _ ⟨.inr ⟨j0, j1⟩, trivial⟩ (fun hC1 => ?_)
        clear hK K hC0
        (try simp only [Act.put, List.setIfInBounds_toArray, List.set_cons_zero, List.set_cons_succ])
        --REG narthex/narthexref20.text:11 8
        refine wpAnyL_pure (i := 8) (oi := ({ dst := some 63, op := Op.fieldAddr 38 (Operand.tmp 9) 1, type := 0, pos := "ref.go:37", after := #[{ on := 0, ground := Ground.phase }, { on := 1, ground := Ground.phase }, { on := 2, ground := Ground.phase }, { on := 3, ground := Ground.phase }, { on := 4, ground := Ground.phase }, { on := 5, ground := Ground.phase }, { on := 6, ground := Ground.phase }, { on := 7, ground := Ground.phase }], guard := none } : Oper)) (v := ?_) rfl (by kernel_rfl) (by kernel_rfl) (by kernel_rfl) (by kernel_rfl) (fun _ _ _ h => h) (Or.inl ⟨by rfl, ?_⟩) (by assumption) (by kernel_rfl) ?_
        rotate_left 1
        · intro w hSw; clear hSw; go_simp; try with_reducible rfl
        (try simp only [Act.put, List.setIfInBounds_toArray, List.set_cons_zero, List.set_cons_succ])
        --END
        refine wpAnyL_ready (rs := [9]) (by kernel_rfl) (by simp) ?_
        refine AllReadyL.cons (o := _) rfl (fun K hK => ?_) AllReadyL.nil
        go_simp
        refine hK.out _ _ ⟨.inl (by rfl), trivial⟩ (fun hC2 => ?_)
        clear hK K hC1
        (try simp only [Act.put, List.setIfInBounds_toArray, List.set_cons_zero, List.set_cons_succ])
        refine wpAnyL_done (by kernel_rfl) ?_ _
        have H11 : Hid (ROut w1 (W10.setCell ⟨w1.heap.size, 1, none⟩ (.int .i64 (addM ol z.l : Nat))).drew w1.heap.size _) := HN
        clear hC2 HN j0 j1 m0 H10
        generalize (W10.setCell ⟨w1.heap.size, 1, none⟩ (.int .i64 (addM ol z.l : Nat))).drew = W11 at *
        have Hd := H11.out.later (Below.refl _ W11).drew
        have j0 := Hd.blk.c2
        have j1 := (ZC.out _ Hd.below).2.2
        have m0 := Hd.blk.m2
        obtain ⟨md, hmd⟩ : ∃ md, md = max od (z.d + 1) := ⟨_, rfl⟩
        have HMD := Lib.hid hmd
        have hmax : max (od : Int) ((z.d : Int) + 1) = (md : Int) := by omega
        clear hmd
        have HN := Lib.hid (Hd.set2 md)
        clear Hd
        go_upto_region 12 with (fail)
        refine wp_region_late [(10, fun V => V.cell? ⟨w1.heap.size, 2, none⟩ = some (.int .i64 od) ∧ V.cell? ⟨(az.add (i * 3)).block, (az.add (i * 3)).off + 2, none⟩ = some (.int .i64 z.d))] (by kernel_rfl) ⟨.inr ⟨j0, j1⟩, trivial⟩ (fun hC0 => ?_)
        --REG narthex/narthexref20.text:12 0 1@0 2 3 4 5 6@0 7 8 9
        refine wpAnyL_pure (i := 0) (oi := ({ dst := some 64, op := Op.fieldAddr 38 (Operand.tmp 9) 2, type := 0, pos := "ref.go:38", after := #[], guard := none } : Oper)) (v := ?_) rfl (by kernel_rfl) (by kernel_rfl) (by kernel_rfl) (by kernel_rfl) (fun _ _ _ h => h) (Or.inl ⟨by rfl, ?_⟩) (by assumption) (by kernel_rfl) ?_
        rotate_left 1
        · intro w hSw; clear hSw; go_simp; try with_reducible rfl
        (try simp only [Act.put, List.setIfInBounds_toArray, List.set_cons_zero, List.set_cons_succ])
        refine wpAnyL_take (i := 1) 0 (oi := ({ dst := some 65, op := Op.load 3 (Operand.tmp 64), type := 3, pos := "ref.go:38", after := #[{ on := 0, ground := Ground.data }], guard := none } : Oper)) (v := ?_) rfl (by kernel_rfl) (by kernel_rfl) (by kernel_rfl) rfl (by kernel_rfl) (by kernel_rfl) (by kernel_rfl) (fun _ _ _ h => h) (Or.inl ⟨by rfl, ?_⟩) (by assumption) (by kernel_rfl) ?_
        rotate_left 1
        · intro w hSw; (try dsimp only at hSw); go_simp; try with_reducible rfl
        (try simp only [Act.put, List.setIfInBounds_toArray, List.set_cons_zero, List.set_cons_succ])
        refine wpAnyL_pure (i := 2) (oi := ({ dst := some 66, op := Op.move (Operand.tmp 1), type := 35, pos := "ref.go:38", after := #[], guard := none } : Oper)) (v := ?_) rfl (by kernel_rfl) (by kernel_rfl) (by kernel_rfl) (by kernel_rfl) (fun _ _ _ h => h) (Or.inl ⟨by rfl, ?_⟩) (by assumption) (by kernel_rfl) ?_
        rotate_left 1
        · intro w hSw; clear hSw; go_simp; try with_reducible rfl
        (try simp only [Act.put, List.setIfInBounds_toArray, List.set_cons_zero, List.set_cons_succ])
        refine wpAnyL_pure (i := 3) (oi := ({ dst := some 67, op := Op.move (Operand.tmp 11), type := 3, pos := "ref.go:38", after := #[], guard := none } : Oper)) (v := ?_) rfl (by kernel_rfl) (by kernel_rfl) (by kernel_rfl) (by kernel_rfl) (fun _ _ _ h => h) (Or.inl ⟨by rfl, ?_⟩) (by assumption) (by kernel_rfl) ?_
        rotate_left 1
        · intro w hSw; clear hSw; go_simp; try with_reducible rfl
        (try simp only [Act.put, List.setIfInBounds_toArray, List.set_cons_zero, List.set_cons_succ])
        refine wpAnyL_pure (i := 4) (oi := ({ dst := some 68, op := Op.indexAddr 35 (Operand.tmp 66) (Operand.tmp 67), type := 0, pos := "ref.go:38", after := #[{ on := 2, ground := Ground.data }, { on := 3, ground := Ground.data }], guard := none } : Oper)) (v := ?_) rfl (by kernel_rfl) (by kernel_rfl) (by kernel_rfl) (by kernel_rfl) (fun _ _ _ h => h) (Or.inl ⟨by rfl, ?_⟩) (by assumption) (by kernel_rfl) ?_
        rotate_left 1
        · intro w hSw; clear hSw; go_simp; try with_reducible rfl
        (try simp only [Act.put, List.setIfInBounds_toArray, List.set_cons_zero, List.set_cons_succ])
        refine wpAnyL_pure (i := 5) (oi := ({ dst := some 69, op := Op.fieldAddr 38 (Operand.tmp 68) 2, type := 0, pos := "ref.go:38", after := #[{ on := 4, ground := Ground.data }], guard := none } : Oper)) (v := ?_) rfl (by kernel_rfl) (by kernel_rfl) (by kernel_rfl) (by kernel_rfl) (fun _ _ _ h => h) (Or.inl ⟨by rfl, ?_⟩) (by assumption) (by kernel_rfl) ?_
        rotate_left 1
        · intro w hSw; clear hSw; go_simp; try with_reducible rfl
        (try simp only [Act.put, List.setIfInBounds_toArray, List.set_cons_zero, List.set_cons_succ])
        refine wpAnyL_take (i := 6) 0 (oi := ({ dst := some 70, op := Op.load 3 (Operand.tmp 69), type := 3, pos := "ref.go:38", after := #[{ on := 5, ground := Ground.data }], guard := none } : Oper)) (v := ?_) rfl (by kernel_rfl) (by kernel_rfl) (by kernel_rfl) rfl (by kernel_rfl) (by kernel_rfl) (by kernel_rfl) (fun _ _ _ h => h) (Or.inl ⟨by rfl, ?_⟩) (by assumption) (by kernel_rfl) ?_
        rotate_left 1
        · intro w hSw; (try dsimp only at hSw); go_simp; try with_reducible rfl
        (try simp only [Act.put, List.setIfInBounds_toArray, List.set_cons_zero, List.set_cons_succ])
        refine wpAnyL_pure (i := 7) (oi := ({ dst := some 71, op := Op.binOp BinOp.add 3 (Operand.tmp 70) (Operand.const (Value.int IntKind.i64 1)) 3, type := 3, pos := "ref.go:38", after := #[{ on := 6, ground := Ground.data }], guard := none } : Oper)) (v := ?_) rfl (by kernel_rfl) (by kernel_rfl) (by kernel_rfl) (by kernel_rfl) (fun _ _ _ h => h) (Or.inl ⟨by rfl, ?_⟩) (by assumption) (by kernel_rfl) ?_
        rotate_left 1
        · intro w hSw; clear hSw; go_simp; try with_reducible rfl
        (try simp only [Act.put, List.setIfInBounds_toArray, List.set_cons_zero, List.set_cons_succ])
        refine wpAnyL_pure (i := 8) (oi := ({ dst := some 72, op := Op.call { callee := Callee.builtin Builtin.max, args := #[Operand.tmp 65, Operand.tmp 71], argTypes := #[3, 3] }, type := 3, pos := "ref.go:38", after := #[{ on := 1, ground := Ground.data }, { on := 7, ground := Ground.data }], guard := none } : Oper)) (v := ?_) rfl (by kernel_rfl) (by kernel_rfl) (by kernel_rfl) (by kernel_rfl) (fun _ _ _ h => h) (Or.inl ⟨by rfl, ?_⟩) (by assumption) (by kernel_rfl) ?_
        rotate_left 1
        · intro w hSw; clear hSw; go_simp; try with_reducible rfl
        (try simp only [Act.put, List.setIfInBounds_toArray, List.set_cons_zero, List.set_cons_succ])
        refine wpAnyL_pure (i := 9) (oi := ({ dst := some 73, op := Op.fieldAddr 38 (Operand.tmp 9) 2, type := 0, pos := "ref.go:38", after := #[{ on := 0, ground := Ground.phase }, { on := 1, ground := Ground.phase }, { on := 2, ground := Ground.phase }, { on := 3, ground := Ground.phase }, { on := 4, ground := Ground.phase }, { on := 5, ground := Ground.phase }, { on := 6, ground := Ground.phase }, { on := 7, ground := Ground.phase }, { on := 8, ground := Ground.phase }], guard := none } : Oper)) (v := ?_) rfl (by kernel_rfl) (by kernel_rfl) (by kernel_rfl) (by kernel_rfl) (fun _ _ _ h => h) (Or.inl ⟨by rfl, ?_⟩) (by assumption) (by kernel_rfl) ?_
        rotate_left 1
        · intro w hSw; clear hSw; go_simp; try with_reducible rfl
        (try simp only [Act.put, List.setIfInBounds_toArray, List.set_cons_zero, List.set_cons_succ])
        --END
        refine wpAnyL_ready (rs := [10]) (by kernel_rfl) (by simp) ?_
        refine AllReadyL.cons (o := _) rfl (fun K hK => ?_) AllReadyL.nil
        go_simp
        refine hK.out _ _ ⟨.inl (by rfl), trivial⟩ (fun hC1 => ?_)
        clear hK K hC0
        (try simp only [Act.put, List.setIfInBounds_toArray, List.set_cons_zero, List.set_cons_succ])
        refine wpAnyL_done (by kernel_rfl) ?_ _
        have H12 : Hid (ROut w1 (W11.setCell ⟨w1.heap.size, 2, none⟩ (.int .i64 md)).drew w1.heap.size _) := HN
        clear hC1 HN j0 j1 m0 H11 hmax
        generalize (W11.setCell ⟨w1.heap.size, 2, none⟩ (.int .i64 md)).drew = W12 at *
        have HNX := Lib.hid (show acc (k + 1) = (q - (x.b - x.a), ⟨addM oc z.c, addM ol z.l, md⟩) from by
          rw [HF6.out, show acc k = (q, ⟨oc, ol, od⟩) from Prod.ext HQ.out.symm HK2.out, HS.out, HMD.out])
        clear e1 e2 xw xw2 zw zd1 b2 b3
        go_wp2
        go_roundw
        case rel => exact ⟨k + 1, by omega, by go_num, ⟨_, rfl, Lib.hid (by rw [HNX.out])⟩, Lib.hid (by rw [HNX.out]; exact H12.out)⟩
        case measure => simp [intOf]; omega
      | false =>
        have hfe := findE_hasT.2 hh
        rw [hfe] at F
        have F2 := Lib.hid F
        clear F
        have hlk : lookF inn zs (strOfNums x.s) = none := by unfold lookF; rw [if_neg (by rw [hh]; decide)]
        have KN := Lib.hid (rknown_any (strOfNums x.s) wr)
        by_cases hkn : 0 < knownN (strOfNums x.s)
        · have HS := Lib.hid (show rstep (lookF inn zs) (q, ⟨oc, ol, od⟩) x = (q - (x.b - x.a) + 1, ⟨oc, ol, od⟩) from by unfold rstep; rw [hlk]; exact if_pos hkn)
          have t1 : decide (0 < knownN (strOfNums x.s)) = true := by simpa using hkn
          have xw3 : IntKind.i64.wrap (((q - (x.b - x.a) : Nat) : Int) + 1) = ((q - (x.b - x.a) : Nat) : Int) + 1 := by simp only [IntKind.wrap, IntKind.bits, IntKind.signed]; simp; omega
          clear hx hx2 hblk f1 f2 f3 f4 f5 f6 hok2 HO2 hfe hlk hh hkn
          go_wp2_with fail
          refine F2.out.mono ?_
          rintro e w' ⟨rfl, rfl⟩
          go_wp2_with fail
          refine KN.out.mono ?_
          rintro e w' ⟨rfl, rfl⟩
          go_wp2_with fail
          go_quiet (fail)
          have H9 := Lib.hid (HR.out.later (w' := wr.drewN nq) ⟨rfl, rfl, rfl, Nat.le_refl _, fun _ _ => rfl⟩)
          clear g0 g1 g2
          generalize wr.drewN nq = W9 at *
          have HNX := Lib.hid (show acc (k + 1) = (q - (x.b - x.a) + 1, ⟨oc, ol, od⟩) from by
            rw [HF6.out, show acc k = (q, ⟨oc, ol, od⟩) from Prod.ext HQ.out.symm HK2.out, HS.out])
          go_wp2
          go_roundw
          case rel => exact ⟨k + 1, by omega, by go_num, ⟨_, rfl, Lib.hid (by rw [HNX.out])⟩, Lib.hid (by rw [HNX.out]; exact H9.out)⟩
          case measure => simp [intOf]; omega
        · have HS := Lib.hid (show rstep (lookF inn zs) (q, ⟨oc, ol, od⟩) x = (q, ⟨oc, ol, od⟩) from by unfold rstep; rw [hlk]; exact if_neg hkn)
          have t1 : decide (0 < knownN (strOfNums x.s)) = false := by simpa using hkn
          clear hx hx2 hblk f1 f2 f3 f4 f5 f6 hok2 HO2 hfe hlk hh hkn
          go_wp2_with fail
          refine F2.out.mono ?_
          rintro e w' ⟨rfl, rfl⟩
          go_wp2_with fail
          refine KN.out.mono ?_
          rintro e w' ⟨rfl, rfl⟩
          have H9 := HR
          have HNX := Lib.hid (show acc (k + 1) = (q, ⟨oc, ol, od⟩) from by
            rw [HF6.out, show acc k = (q, ⟨oc, ol, od⟩) from Prod.ext HQ.out.symm HK2.out, HS.out])
          go_wp2
          go_roundw
          case rel => exact ⟨k + 1, by omega, by go_num, ⟨_, rfl, Lib.hid (by rw [HNX.out])⟩, Lib.hid (by rw [HNX.out]; exact H9.out)⟩
          case measure => simp [intOf]; omega
    · obtain rfl : k = l.length := by omega
      obtain ⟨a1, a2, a3⟩ := AE.out
      rw [← HQ.out] at a1 a3
      have HO2 := HO.out
      generalize (acc l.length).2 = o2 at HO2 a1 a2
      obtain ⟨oc, ol, od⟩ := o2
      obtain ⟨fo1, fo2, fo3⟩ := a2
      dsimp only at a1
      have A2 := Lib.hid (fun V => radd_nat ol q V (MX_int fo2) (by omega))
      have m1 := HO2.blk.m1
      have r1 := HO2.blk.c1
      have HE := Lib.hid a1
      have H2 := Lib.hid (HO2.set1 (addM ol q))
      clear a1 a3 HO2 fo1 fo2 fo3
      go_wp2_with fail
      refine (A2.out _).mono ?_
      rintro e w' ⟨rfl, rfl⟩
      go_upto_region 16 with (fail)
      have H3 := H2.out
      clear H2 m1 r1
      generalize wr.setCell ⟨w1.heap.size, 1, none⟩ (.int .i64 (addM ol q : Nat)) = W5 at *
      have R5 := R1.out.later H3.below
      have c0 := H3.blk.c0
      have c1 := H3.blk.c1
      have c2 := H3.blk.c2
      have m0 := R5.m0
      have m1 := R5.m1
      have m2 := R5.m2
      have q0 := R5.c0
      have q1 := R5.c1
      have q2 := R5.c2
      have BE := Lib.hid (R5.store (.int .i64 oc) (.int .i64 (addM ol q : Nat)) (.int .i64 od))
      have HB := Lib.hid (below_store (H1.out.trans (H3.below.mono (Nat.le_of_lt hlt1))) (Nat.le_refl _) (.int .i64 oc) (.int .i64 (addM ol q : Nat)) (.int .i64 od))
      clear H3 R5
      go_wp2
      rw [HE.out]
      have bE := BE.out
      have hE := HB.out
      clear BE HB
      generalize ((W5.setCell ⟨w.heap.size, 0, none⟩ (.int .i64 oc)).setCell ⟨w.heap.size, 1, none⟩ (.int .i64 (addM ol q : Nat))).setCell ⟨w.heap.size, 2, none⟩ (.int .i64 od) = V at bE hE ⊢
      have d0 := bE.c0
      have d1 := bE.c1
      have d2 := bE.c2
      refine bodyPost_ret (v := (⟨oc, addM ol q, od⟩ : Sz).v) (by simp [results, Tryd.results22, go_sem, d0, d1, d2]; rfl) rfl ?_
      exact ⟨rfl, hE⟩
end Go.Proofs.YtkeclfhhilphpaaDoor
/- The document's sizes of all entities, walked. Conditions: at most 2^20 entities, texts of at most 2^20 bytes. -/
namespace Go.Proofs.YtkeclfhhilphpaaDoor
open Go.RowKit Go.Maps Go.Proofs.YtkeclfhhilphpaaDoor.RefPlain Go.Proofs.YtkeclfhhilphpaaDoor.GraphPlain
set_option linter.unusedVariables false
set_option linter.unusedSimpArgs false
theorem Tryd.infoSzR : (Tryd.prog.info? 38).map (fun i => (i.zero, i.size, i.bytes)) = some (some (.agg #[.int .i64 0, .int .i64 0, .int .i64 0]), 3, 24) := by kernel_rfl
theorem SzAt.of_own {w : World} {T : TypeId} {base N ob : Nat} {zs : List Sz} (h : w.ownsRow base T 3 (.slice (some ⟨ob, 0, none⟩) N N) N (szCells zs)) (hN : N = zs.length) : SzAt w (some ⟨ob, 0, none⟩) N zs := by
  refine ⟨hN.symm, fun i hi => ?_⟩
  have hz : zs[i]? = some zs[i] := List.getElem?_eq_getElem (by omega)
  obtain ⟨h0, h1, h2, _⟩ := szRow_at h hz hN
  have e : (⟨ob, 0, none⟩ : Addr).add (i * 3) = ⟨ob, i * 3, none⟩ := addT _ _
  exact ⟨_, zs[i], rfl, hz, (h.lt ob rfl).2, by rw [e]; exact h0, by rw [e]; exact h1, by rw [e]; exact h2⟩
theorem reckon_upto {inn : List Ent} {zs : List Sz} {m i : Nat} (h : ∀ z ∈ zs, z.upto m) (hl : zs.length = inn.length) (hm : m + 1 ≤ MX) (ht : (bsOf (entD inn i).tx).length ≤ MX) : ∀ z ∈ reckon inn zs i, z.upto (m + 1) := by
  have hok : okF (lookF inn zs) m := by
    intro y z hy
    unfold lookF at hy
    by_cases hh : hasT (inn.map Ent.na) y = true
    · rw [if_pos hh] at hy
      have hlt := idxT_lt hh
      rw [List.length_map, ← hl] at hlt
      rw [List.getD_eq_getElem?_getD, List.getElem?_eq_getElem hlt] at hy
      rw [← Option.some.inj hy]
      exact h _ (List.getElem_mem _)
    · rw [if_neg hh] at hy; cases hy
  intro z hz
  unfold reckon at hz
  rcases List.mem_or_eq_of_mem_set hz with h' | h'
  · exact ⟨(h z h').1, (h z h').2.1, Nat.le_succ_of_le (h z h').2.2⟩
  · rw [h', rtext_eq _ _ ht]
    exact sizeT_upto ht (ref_upto ht hok hm)
theorem reckTo_upto {inn : List Ent} {zs : List Sz} {m : Nat} (h : ∀ z ∈ zs, z.upto m) (hl : zs.length = inn.length) (ht : ∀ i, (bsOf (entD inn i).tx).length ≤ MX) : ∀ i, m + i ≤ MX → ∀ z ∈ reckTo inn zs i, z.upto (m + i) := by
  intro i
  induction i with
  | zero => intro _; exact h
  | succ i ih =>
    intro hi
    rw [reckTo_next]
    exact reckon_upto (ih (by omega)) (by rw [reckTo_len, hl]) (by omega) (ht i)
theorem reckAll_upto {inn : List Ent} (ht : ∀ i, (bsOf (entD inn i).tx).length ≤ MX) : ∀ q, q * inn.length ≤ MX → ∀ z ∈ reckAll inn q, z.upto (q * inn.length) := by
  intro q
  induction q with
  | zero =>
    intro _ z hz
    have : z = zero3 := (List.mem_replicate.1 (show z ∈ List.replicate inn.length zero3 from hz)).2
    subst this
    exact ⟨Nat.zero_le _, Nat.zero_le _, Nat.zero_le _⟩
  | succ q ih =>
    intro hq
    rw [Nat.succ_mul] at hq ⊢
    exact reckTo_upto (ih (by omega)) (reckAll_len inn q) ht inn.length hq
structure RAt (w1 w : World) (ob N : Nat) (zs : List Sz) : Prop where
  below : Below w1.heap.size w1 w
  row : w.ownsRow w1.heap.size 38 3 (.slice (some ⟨ob, 0, none⟩) N N) N (szCells zs)
  len : N = zs.length
theorem RAt.later {w1 w w' : World} {ob N : Nat} {zs : List Sz} (h : RAt w1 w ob N zs) (hb : Below w.heap.size w w') : RAt w1 w' ob N zs := ⟨h.below.trans (hb.mono h.below.size), ownB_below h.row hb, h.len⟩
theorem RAt.store {w1 w : World} {ob N i : Nat} {zs : List Sz} (h : RAt w1 w ob N zs) (hi : i < zs.length) (z : Sz) :
    RAt w1 (((w.setCell ⟨ob, i * 3, none⟩ (.int .i64 z.c)).setCell ⟨ob, i * 3 + 1, none⟩ (.int .i64 z.l)).setCell ⟨ob, i * 3 + 2, none⟩ (.int .i64 z.d)) ob N (zs.set i z) := by
  have hob := h.row.lt ob rfl
  refine ⟨((h.below.setCell (p := ⟨ob, i * 3, none⟩) hob.1 _).setCell (p := ⟨ob, i * 3 + 1, none⟩) hob.1 _).setCell (p := ⟨ob, i * 3 + 2, none⟩) hob.1 _, szRow_set h.row hi z, ?_⟩
  rw [List.length_set]; exact h.len
def TellRAll (inn : List Ent) (w : World) (e : Ending) (w' : World) : Prop := ∃ ob, e = .returned (.slice (some ⟨ob, 0, none⟩) inn.length inn.length) ∧
  w'.ownsRow w.heap.size 38 3 (.slice (some ⟨ob, 0, none⟩) inn.length inn.length) inn.length (szCells (reckAll inn (inn.length + 1))) ∧ Below w.heap.size w w'
set_option maxRecDepth 100000 in
set_option maxHeartbeats 8000000 in
theorem rall20_any (A : Option Addr) (n c : Nat) (l : List Ent) (w : World) (hl : EntsAt w A n l) (hn : n ≤ 1048576) (hs : ∀ e ∈ l, e.tx.size ≤ 1048576) :
    Calls Tryd.prog 11 #[.slice A n c] w (TellRAll (innerN l) w) := by
  obtain ⟨i0, hi0, hz0, hz1, hz2⟩ := info_parts Tryd.infoSzR
  have C := Lib.hid (inner_any A n c l w hl hn)
  have HI := Lib.hid (show (innerN l).length ≤ 1048576 by have := innerN_len l l.length; rw [List.take_length] at this; have := hl.1; omega)
  have HS := Lib.hid (fun i => entD_short l hs i)
  have HST := Lib.hid (fun e (he : e ∈ innerN l) => hs e (innerN_mem he))
  clear hl hs
  generalize innerN l = inn at *
  go_enter Tryd.func11, Tryd.ntmps11
  go_wp2_with fail
  refine C.out.mono ?_
  rintro e w1 ⟨A', c', rfl, hin, hB⟩
  have E1 := Lib.hid (EntsAt.of_own hin)
  have HB := Lib.hid hB
  clear hin hB C
  go_wp2_with (at_make; refine wpList_make_full _ rfl _ _ 35 rfl w1.heap.size 38 i0 (.agg #[.int .i64 0, .int .i64 0, .int .i64 0]) 3 Tryd.underlying35 hi0 hz0 hz1 .i64 .i64 _ _ inn.length rfl rfl rfl rfl ?m1 ?m2 ?m3 ?_)
  case m1 => rw [hz2]; have := HI.out; omega
  case m2 => have := HI.out; unfold maxLen; omega
  case m3 => exact Nat.le_refl _
  intro w3 hown hgrow
  have r3 : w3.ownsRow w1.heap.size 38 3 (.slice (some ⟨w1.heap.size, 0, none⟩) inn.length inn.length) inn.length (szCells (List.replicate inn.length zero3)) := by
    rw [show zero3 = (⟨0, 0, 0⟩ : Sz) from rfl, ← szCells_made]
    exact hown
  have R3 := Lib.hid (⟨(Below.refl _ w1).grown hgrow (Nat.le_refl _) (fun _ h => by cases h), r3, by simp⟩ : RAt w1 w3 w1.heap.size inn.length (List.replicate inn.length zero3))
  have R3 := Lib.hid (show RAt w1 w3 w1.heap.size inn.length (reckAll inn 0) from R3.out)
  clear r3 hown hgrow
  have hI := HI.out
  go_wp2_with fail
  go_loopg [5] (inn.length + 1) (fun g v5 wr => ∃ (q : Nat), g + q = inn.length + 1 ∧ v5 = .int .i64 q ∧ Hid (RAt w1 wr w1.heap.size inn.length (reckAll inn q)))
  case atStart => exact ⟨0, rfl, rfl, R3⟩
  case round =>
    obtain ⟨q, hgq, rfl, HR⟩ := hrel
    obtain ⟨go, hgo⟩ : ∃ go, go = gk := ⟨_, rfl⟩
    rw [← hgo] at hgq
    by_cases hlt : q ≤ inn.length
    · have hqN : (q : Int) ≤ (inn.length : Int) := by omega
      have HQ := Lib.hid hlt
      go_wp2_with fail
      go_loopg [6] inn.length (fun g v6 wr' => ∃ (i : Nat), g + i = inn.length ∧ v6 = .int .i64 i ∧ Hid (RAt w1 wr' w1.heap.size inn.length (reckTo inn (reckAll inn q) i)))
      case atStart => exact ⟨0, rfl, rfl, HR⟩
      case round =>
        obtain ⟨i, hgi, rfl, HI2⟩ := hrel
        by_cases hli : i < inn.length
        · obtain ⟨a, x, rfl, hx, hE⟩ := (E1.out.below HI2.out.below).2 i hli
          obtain ⟨hEl, g0, g1, g2, g3, g4, g5⟩ := hE
          have hD : entD inn i = x := by unfold entD; rw [List.getD_eq_getElem?_getD, hx]; rfl
          have b0 : (0 : Int) ≤ (i : Int) := by omega
          have b1 : (i : Int) < (inn.length : Int) := by omega
          have hm2 : q * inn.length + i + 1 ≤ MX := by
            have h1 : q * inn.length ≤ 1048576 * 1048576 := Nat.mul_le_mul (by omega) hI
            have h2 : (1048576 * 1048576 + 1048576 + 1 : Nat) ≤ MX := by unfold MX; decide
            omega
          have hz := SzAt.of_own HI2.out.row HI2.out.len
          have hup := reckTo_upto (reckAll_upto HS.out q (by omega)) (reckAll_len inn q) HS.out i (by omega)
          have T := rtext_any _ inn.length c' inn _ inn.length (reckTo inn (reckAll inn q) i) x.tx (q * inn.length + i) wr (E1.out.below HI2.out.below) hI hz hup hm2 (HST.out x (List.mem_of_getElem? hx))
          have hnext := reckTo_next inn (reckAll inn q) i
          unfold reckon at hnext
          rw [hD] at hnext
          have hln : (reckTo inn (reckAll inn q) i).length = inn.length := by rw [reckTo_len, reckAll_len]
          obtain ⟨zo, hzo⟩ : ∃ zo, (reckTo inn (reckAll inn q) i)[i]? = some zo := ⟨_, List.getElem?_eq_getElem (by rw [hln]; exact hli)⟩
          have TT := Lib.hid T
          have NX := Lib.hid hnext
          have ZO := Lib.hid hzo
          have LN := Lib.hid hln
          have HLI := Lib.hid hli
          clear T hnext hzo hln hz hup hm2 hD hEl g0 g2 g3 g4 g5 hx
          generalize hst : reckTo inn (reckAll inn q) i = zs at *
          generalize rtext (lookF inn zs) (bsOf x.tx) = zz at *
          go_wp2_with fail
          refine TT.out.mono ?_
          rintro e w4 ⟨rfl, hB4⟩
          obtain ⟨zc, zl, zd⟩ := zz
          dsimp only [Sz.v]
          have H4 := Lib.hid (HI2.out.later hB4)
          obtain ⟨y0, y1, y2, m0, m1, m2⟩ := szRow_at H4.out.row ZO.out H4.out.len
          have H5 := Lib.hid (H4.out.store (i := i) (by rw [LN.out]; exact HLI.out) ⟨zc, zl, zd⟩)
          clear hB4 g1 hst
          go_wp2
          have H6 := H5.out
          clear y0 y1 y2 m0 m1 m2 H5
          generalize ((w4.setCell ⟨w1.heap.size, i * 3, none⟩ (.int .i64 zc)).setCell ⟨w1.heap.size, i * 3 + 1, none⟩ (.int .i64 zl)).setCell ⟨w1.heap.size, i * 3 + 2, none⟩ (.int .i64 zd) = W9 at H6 ⊢
          have H7 := Lib.hid H6
          clear H6
          go_roundg (gk - 1)
          case measure => omega
          case rel => exact ⟨i + 1, by omega, by go_num, Lib.hid (by rw [NX.out]; exact H7.out)⟩
        · obtain rfl : i = inn.length := by omega
          have H8 := Lib.hid (show RAt w1 wr w1.heap.size inn.length (reckAll inn (q + 1)) from HI2.out)
          go_wp2
          go_roundg (go - 1)
          case measure => omega
          case rel => exact ⟨q + 1, by omega, by go_num, H8⟩
    · have hq1 : q = inn.length + 1 := by omega
      have hqN : ¬ (q : Int) ≤ (inn.length : Int) := by omega
      rw [hq1] at HR
      have HE := Lib.hid (HB.out.trans (HR.out.below.mono HB.out.size))
      have HW := Lib.hid (own_lowC HR.out.row HB.out.size)
      clear HR R3 hq1 hgq hgo hlt
      go_wp2
      go_ret
      exact ⟨_, rfl, HW.out, HE.out⟩
end Go.Proofs.YtkeclfhhilphpaaDoor
/- The document's size of a text with entities, and whether two sizes are the same. Conditions: at most 2^20 entities, texts of at most 2^20 bytes. -/
namespace Go.Proofs.YtkeclfhhilphpaaDoor
open Go.RowKit Go.Maps Go.Proofs.YtkeclfhhilphpaaDoor.RefPlain Go.Proofs.YtkeclfhhilphpaaDoor.GraphPlain
set_option linter.unusedVariables false
set_option linter.unusedSimpArgs false
theorem m_small {n : Nat} (h : n ≤ 1048576) : (n + 1) * n + 1 ≤ MX := by
  have h1 : (n + 1) * n ≤ 1048577 * 1048576 := Nat.mul_le_mul (by omega) h
  have h2 : (1048577 * 1048576 + 1 : Nat) ≤ MX := by unfold MX; decide
  omega
set_option maxRecDepth 100000 in
set_option maxHeartbeats 4000000 in
theorem rof20_any (A : Option Addr) (n c : Nat) (l : List Ent) (s : ByteArray) (w : World) (hl : EntsAt w A n l) (hn : n ≤ 1048576) (hs : ∀ e ∈ l, e.tx.size ≤ 1048576) (hsz : s.size ≤ 1048576) :
    Calls Tryd.prog 13 #[.slice A n c, .string s] w (TellSz (rtext (lookF (innerN l) (reckAll (innerN l) ((innerN l).length + 1))) (bsOf s)) w) := by
  obtain ⟨W, hW, hsW, hBW, b0⟩ := oneWorld w 38 (.int .i64 0) (.int .i64 0) (.int .i64 0)
  have C := Lib.hid (inner_any A n c l W (hl.below hBW) hn)
  have R := Lib.hid (fun V (hb : Below W.heap.size W V) => rall20_any A n c l V ((hl.below hBW).below hb) hn hs)
  have hI : (innerN l).length ≤ 1048576 := by have := innerN_len l l.length; rw [List.take_length] at this; have := hl.1; omega
  have HS := Lib.hid (fun i => entD_short l hs i)
  have HUP := Lib.hid (reckAll_upto HS.out ((innerN l).length + 1) (by have := m_small hI; omega))
  have BW := Lib.hid hBW
  have B0 := Lib.hid b0
  have HM := Lib.hid (m_small hI)
  clear hl hs hBW b0 hsW
  generalize innerN l = inn at *
  go_enter Tryd.func13, Tryd.ntmps13
  go_wp2_with fail
  refine C.out.mono ?_
  rintro e w1 ⟨A', c', rfl, hin, hB⟩
  have E1 := Lib.hid (EntsAt.of_own hin)
  have H1 := Lib.hid hB
  clear hin hB C
  go_wp2_with fail
  refine (R.out w1 H1.out).mono ?_
  rintro e w2 ⟨ob, rfl, hrow, hB⟩
  have Z2 := Lib.hid (SzAt.of_own hrow (reckAll_len inn _).symm)
  have E2 := Lib.hid (E1.out.below hB)
  have H2 := Lib.hid (H1.out.trans (hB.mono H1.out.size))
  clear hrow hB E1 H1 R
  have T := Lib.hid (rtext_any A' inn.length c' inn _ inn.length (reckAll inn (inn.length + 1)) s ((inn.length + 1) * inn.length) w2 E2.out hI Z2.out HUP.out HM.out hsz)
  go_wp2_with fail
  refine T.out.mono ?_
  rintro e w3 ⟨rfl, hB3⟩
  generalize rtext (lookF inn (reckAll inn (inn.length + 1))) (bsOf s) = zz at *
  obtain ⟨zc, zl, zd⟩ := zz
  dsimp only [Sz.v]
  have H3 := H2.out.trans (hB3.mono H2.out.size)
  have bV := B0.out.later H3
  have m0 := bV.m0
  have m1 := bV.m1
  have m2 := bV.m2
  have r0 := bV.c0
  have r1 := bV.c1
  have r2 := bV.c2
  have BE := Lib.hid (bV.store (.int .i64 zc) (.int .i64 zl) (.int .i64 zd))
  have HE := Lib.hid (below_store (BW.out.trans (H3.mono BW.out.size)) (Nat.le_refl _) (.int .i64 zc) (.int .i64 zl) (.int .i64 zd))
  clear bV hB3 H3 T
  go_wp2
  have bE := BE.out
  have hE := HE.out
  clear BE HE
  generalize ((w3.setCell ⟨w.heap.size, 0, none⟩ (.int .i64 zc)).setCell ⟨w.heap.size, 1, none⟩ (.int .i64 zl)).setCell ⟨w.heap.size, 2, none⟩ (.int .i64 zd) = V at bE hE ⊢
  have c0 := bE.c0
  have c1 := bE.c1
  have c2 := bE.c2
  refine bodyPost_ret (v := (⟨zc, zl, zd⟩ : Sz).v) (by simp [results, Tryd.results13, go_sem, c0, c1, c2]; rfl) rfl ?_
  exact ⟨rfl, hE⟩
set_option maxHeartbeats 4000000 in
theorem same20_any (a : Sz) (w : World) : Calls Tryd.prog 12 #[.agg #[.int .i64 a.c, .int .i64 a.l, .int .i64 a.d], .agg #[.int .i64 a.c, .int .i64 a.l, .int .i64 a.d]] w (LiveEnd w) := by
  obtain ⟨W, hW, hsz, hBW, b0, b1⟩ := twoWorld w 26 38 (.int .i64 a.c) (.int .i64 a.l) (.int .i64 a.d) (.int .i64 a.c) (.int .i64 a.l) (.int .i64 a.d)
  have x0 := b0.c0
  have x1 := b0.c1
  have x2 := b0.c2
  have y0 := b1.c0
  have y1 := b1.c1
  have y2 := b1.c2
  have HB := Lib.hid hBW
  clear b0 b1 hBW hsz
  go_enter Tryd.func12, Tryd.ntmps12
  go_wp2
  go_ret
  exact ⟨rfl, HB.out⟩
end Go.Proofs.YtkeclfhhilphpaaDoor
/- The law CostSizes, walked. Conditions: texts within the reach; the tables hold what the text gives them. -/
namespace Go.Proofs.YtkeclfhhilphpaaDoor
open Go.RowKit Go.Maps Go.Proofs.YtkeclfhhilphpaaDoor.RefPlain Go.Proofs.YtkeclfhhilphpaaDoor.GraphPlain
set_option linter.unusedVariables false
set_option linter.unusedSimpArgs false
theorem SzAt.lit {w : World} {ob N i : Nat} {zs : List Sz} (h : SzAt w (some ⟨ob, 0, none⟩) N zs) (hi : i < N) : ∃ z, zs[i]? = some z ∧ w.cell? ⟨ob, i * 3, none⟩ = some (.int .i64 z.c) ∧ w.cell? ⟨ob, i * 3 + 1, none⟩ = some (.int .i64 z.l) ∧ w.cell? ⟨ob, i * 3 + 2, none⟩ = some (.int .i64 z.d) := by
  obtain ⟨a, z, ha, h1, h2, h3, h4, h5⟩ := h.2 i hi
  cases ha
  have e : (⟨ob, 0, none⟩ : Addr).add (i * 3) = ⟨ob, i * 3, none⟩ := addT _ _
  rw [e] at h3 h4 h5
  exact ⟨z, h1, h3, h4, h5⟩
set_option maxRecDepth 100000 in
set_option maxHeartbeats 8000000 in
theorem costSizes_any (A : Option Addr) (n c : Nat) (l : List Ent) (s : ByteArray) (w : World) (hl : EntsAt w A n l) (hn : n ≤ maxLen) (hs : ∀ e ∈ l, e.na.size ≤ maxLen ∧ e.tx.size ≤ 140737488351232) (hss : s.size ≤ maxLen) (hf : FormsAt w) (ht : Tabs w) (hk : KnownAt w) :
    Calls Tryd.prog 4 #[.slice A n c, .string s] w (LiveEnd w) := by
  have M := Lib.hid (rmuch_any A n c l w hl (fun e he => (hs e he).2) (by unfold maxLen at hn; omega))
  have LV := Lib.hid (fun (V : World) (hB : Below w.heap.size w V) => live20_any V (hf.below hB hf.size) (ht.below hB ht.size) (hk.later hB))
  have L0 := Lib.hid (live20_any w hf ht hk)
  have s1 : (s.size : Int) ≤ 9223372036854775807 := by unfold maxLen at hss; omega
  have HL := Lib.hid hl
  have HS := Lib.hid hs
  have HF := Lib.hid hf
  have HT := Lib.hid ht
  have HK := Lib.hid hk
  clear hl hs hf ht hk hss
  cases hm : muchN n l with
  | true =>
    rw [hm] at M
    clear hm
    go_enter Tryd.func4, Tryd.ntmps4
    go_wp2_with fail
    refine M.out.mono ?_
    rintro e w1 ⟨rfl, rfl⟩
    go_wp2_with fail
    refine L0.out.mono ?_
    rintro e w1 ⟨rfl, hB⟩
    have HB := Lib.hid hB
    clear hB
    go_wp2
    go_ret
    exact ⟨rfl, HB.out⟩
  | false =>
    rw [hm] at M
    obtain ⟨hn24, hs15⟩ := muchN_no HL.out.1 hm
    have HS2 := Lib.hid (show ∀ e ∈ l, e.na.size ≤ maxLen ∧ e.tx.size ≤ 1048576 from fun e he => ⟨(HS.out e he).1, by have := hs15 e he; omega⟩)
    clear hm hs15
    by_cases h1 : 300 < s.size
    · have t1 : decide ((300 : Int) < (s.size : Int)) = true := by simp; omega
      go_enter Tryd.func4, Tryd.ntmps4
      go_wp2_with fail
      refine M.out.mono ?_
      rintro e w1 ⟨rfl, rfl⟩
      go_wp2_with fail
      refine L0.out.mono ?_
      rintro e w1 ⟨rfl, hB⟩
      have HB := Lib.hid hB
      clear hB
      go_wp2
      go_ret
      exact ⟨rfl, HB.out⟩
    · have t1 : decide ((300 : Int) < (s.size : Int)) = false := by simp; omega
      have hsz : s.size ≤ 1048576 := by omega
      have hn20 : n ≤ 1048576 := by omega
      have LP := Lib.hid (fun V (hB : Below w.heap.size w V) => rloops_any A n c l V (HL.out.below hB) hn20 (fun e he => (HS2.out e he).2))
      cases hlp : loopsN l with
      | true =>
        rw [hlp] at LP
        have ho := loops_yes hlp
        have CA := Lib.hid (call_loop A n c l w HL.out hn20 HS2.out HF.out HT.out ho)
        have CO := Lib.hid (fun V (hB : Below w.heap.size w V) => cof_loop A n c l s V (HL.out.below hB) hn20 HS2.out (HF.out.below hB HF.out.size) (HT.out.below hB HT.out.size) ho)
        have E := sizeEq 0 0 0 0 0 0
        rw [decide_eq_true rfl] at E
        clear hlp ho
        go_enter Tryd.func4, Tryd.ntmps4
        go_wp2_with fail
        refine M.out.mono ?_
        rintro e w1 ⟨rfl, rfl⟩
        go_wp2_with fail
        refine CA.out.mono ?_
        rintro e w1 ⟨rfl, hB⟩
        have H1 := Lib.hid hB
        clear hB
        go_wp2_with fail
        refine (CO.out w1 H1.out).mono ?_
        rintro e w2 ⟨rfl, hB⟩
        dsimp only [Sz.v]
        obtain ⟨W2, hW2, hs2, hb2, B2⟩ := oneWorld w2 26 (.int .i64 (0 : Nat)) (.int .i64 (0 : Nat)) (.int .i64 (0 : Nat))
        have H2 := Lib.hid ((H1.out.trans (hB.mono H1.out.size)).trans (hb2.mono (Nat.le_trans H1.out.size hB.size)))
        have B2 := Lib.hid B2
        clear hB hb2 hs2
        go_upto_region 5 with (fail)
        rw [show w2.alloc (.cells #[.int .i64 0, .int .i64 0, .int .i64 0] 26) = W2 from hW2]
        clear hW2
        go_wp2_with fail
        refine (LP.out W2 H2.out).mono ?_
        rintro e w3 ⟨rfl, hB⟩
        have B3 := Lib.hid (B2.out.later hB)
        have H3 := Lib.hid (H2.out.trans (hB.mono H2.out.size))
        have c0 : w3.cell? ⟨w2.heap.size, 0, none⟩ = some (.int .i64 0) := B3.out.c0
        have c1 : w3.cell? ⟨w2.heap.size, 1, none⟩ = some (.int .i64 0) := B3.out.c1
        have c2 : w3.cell? ⟨w2.heap.size, 2, none⟩ = some (.int .i64 0) := B3.out.c2
        clear hB
        go_wp2_with fail
        refine (LV.out w3 H3.out).mono ?_
        rintro e w4 ⟨rfl, hB⟩
        have H4 := Lib.hid (H3.out.trans (hB.mono H3.out.size))
        clear hB c0 c1 c2
        go_wp2
        go_ret
        exact ⟨rfl, H4.out⟩
      | false =>
        rw [hlp] at LP
        have ho := loops_no hlp
        have hI : (innerN l).length ≤ 1048576 := by have := innerN_len l l.length; rw [List.take_length] at this; have := HL.out.1; omega
        have hsame := reckAll_same l ho (fun i => entD_short l (fun e he => (HS2.out e he).2) i) (q := (innerN l).length + 1) (by omega)
        have hlook := costF_look l ho
        have hzl : (costZ l).length = (innerN l).length := runZ_len _
        have hbs : (bsOf s).length ≤ MX := by rw [bsOf_len]; unfold MX; omega
        have CA := Lib.hid (call_ok A n c l w HL.out hn20 HS2.out HF.out HT.out HK.out ho)
        have CO := fun V (hB : Below w.heap.size w V) => cof_ok A n c l s V (HL.out.below hB) hn20 HS2.out hsz (HF.out.below hB HF.out.size) (HT.out.below hB HT.out.size) (HK.out.later hB) ho
        have RO := fun V (hB : Below w.heap.size w V) => rof20_any A n c l s V (HL.out.below hB) hn20 (fun e he => (HS2.out e he).2) hsz
        rw [hsame, rtext_eq _ _ hbs, ← hlook] at RO
        have RA := fun V (hB : Below w.heap.size w V) => rall20_any A n c l V (HL.out.below hB) hn20 (fun e he => (HS2.out e he).2)
        unfold TellRAll at RA
        rw [hsame] at RA
        generalize sizeT (refF (costF l)) (bsOf s) = zz at *
        obtain ⟨zc, zl, zd⟩ := zz
        have SM := Lib.hid (fun (a b d : Nat) V => same20_any ⟨a, b, d⟩ V)
        have CO := Lib.hid CO
        have RO2 := Lib.hid RO
        have RA2 := Lib.hid RA
        have HZL := Lib.hid hzl
        clear hlp ho hsame hlook hzl hbs RO RA
        go_enter Tryd.func4, Tryd.ntmps4
        go_wp2_with fail
        refine M.out.mono ?_
        rintro e w1 ⟨rfl, rfl⟩
        go_wp2_with fail
        refine CA.out.mono ?_
        rintro e w1 ⟨oa, rfl, hrow, hB⟩
        have ZA := Lib.hid (SzAt.of_own hrow HZL.out.symm)
        have H1 := Lib.hid hB
        clear hrow hB
        go_wp2_with fail
        refine (CO.out w1 H1.out).mono ?_
        rintro e w2 ⟨rfl, hB⟩
        dsimp only [Sz.v]
        obtain ⟨W2, hW2, hs2, hb2, B2⟩ := oneWorld w2 26 (.int .i64 zc) (.int .i64 zl) (.int .i64 zd)
        have H2 := Lib.hid ((H1.out.trans (hB.mono H1.out.size)).trans (hb2.mono (Nat.le_trans H1.out.size hB.size)))
        have ZA := Lib.hid ((ZA.out.below hB).below hb2)
        have B2 := Lib.hid B2
        clear hB hb2 hs2
        go_wp2_with fail
        clear hW2
        refine (LP.out W2 H2.out).mono ?_
        rintro e w3 ⟨rfl, hB⟩
        have B3 := Lib.hid (B2.out.later hB)
        have ZA := Lib.hid (ZA.out.below hB)
        have H3 := Lib.hid (H2.out.trans (hB.mono H2.out.size))
        clear hB
        go_wp2_with fail
        refine (RA2.out w3 H3.out).mono ?_
        rintro e w4 ⟨oz, rfl, hrow, hB⟩
        have B4 := Lib.hid (B3.out.later hB)
        have ZA := Lib.hid (ZA.out.below hB)
        have ZB := Lib.hid (SzAt.of_own hrow HZL.out.symm)
        have H4 := Lib.hid (H3.out.trans (hB.mono H3.out.size))
        have hz : w2.heap.size < w4.heap.size := B4.out.lt
        clear hrow hB
        go_wp2_with fail
        generalize (innerN l).length = N at *
        go_loopw [10] (fun v10 wr => ∃ (k : Nat), k ≤ N ∧ v10 = .int .i64 k ∧ Hid (Below w4.heap.size w4 wr)) (fun v10 _ => N - (intOf v10).toNat)
        case atStart => exact ⟨0, Nat.zero_le _, rfl, Below.refl _ _⟩
        case round =>
          obtain ⟨k, hk, rfl, HW⟩ := hrel
          by_cases hlt : k < N
          · obtain ⟨x, hx, _, _, _⟩ := ZA.out.lit hlt
            have MK : Hid (∀ V, Below w4.heap.size w4 V → V.cell? ⟨oa, k * 3, none⟩ = some (.int .i64 x.c) ∧ V.cell? ⟨oa, k * 3 + 1, none⟩ = some (.int .i64 x.l) ∧ V.cell? ⟨oa, k * 3 + 2, none⟩ = some (.int .i64 x.d) ∧ V.cell? ⟨oz, k * 3, none⟩ = some (.int .i64 x.c) ∧ V.cell? ⟨oz, k * 3 + 1, none⟩ = some (.int .i64 x.l) ∧ V.cell? ⟨oz, k * 3 + 2, none⟩ = some (.int .i64 x.d)) := by
              intro V hV
              obtain ⟨x1, hx1, a0, a1, a2⟩ := (ZA.out.below hV).lit hlt
              obtain ⟨x2, hx2, b0, b1, b2⟩ := (ZB.out.below hV).lit hlt
              obtain rfl : x1 = x := Option.some.inj (hx1.symm.trans hx)
              obtain rfl : x2 = x1 := Option.some.inj (hx2.symm.trans hx)
              exact ⟨a0, a1, a2, b0, b1, b2⟩
            have b0 : (0 : Int) ≤ (k : Int) := by omega
            have b1 : (k : Int) < (N : Int) := by omega
            have hx' := Lib.hid hx
            clear hx
            obtain ⟨xc, xl, xd⟩ := x
            dsimp only at MK
            have SM2 := Lib.hid (SM.out xc xl xd)
            go_wp2_with fail
            have HX := Lib.hid (show Below w4.heap.size w4 wr.drew from HW.out.drew)
            have j0 := MK.out _ HX.out
            go_region_held3 (fun V => V.cell? ⟨oa, k * 3, none⟩ = some (.int .i64 xc) ∧ V.cell? ⟨oa, k * 3 + 1, none⟩ = some (.int .i64 xl) ∧ V.cell? ⟨oa, k * 3 + 2, none⟩ = some (.int .i64 xd) ∧ V.cell? ⟨oz, k * 3, none⟩ = some (.int .i64 xc) ∧ V.cell? ⟨oz, k * 3 + 1, none⟩ = some (.int .i64 xl) ∧ V.cell? ⟨oz, k * 3 + 2, none⟩ = some (.int .i64 xd))
              (first | exact j0 | exact MK.out _ HX.out)
              (first
              | (go_at_call 12
                 refine (SM2.out _).mono ?_
                 rintro e w9 ⟨rfl, hB9⟩
                 have HX := Lib.hid (HX.out.trans (hB9.mono HX.out.size))
                 clear hB9))
            all_goals
              go_wp2
              go_roundw
              case rel => exact ⟨k + 1, by omega, by go_num, HX⟩
              case measure => simp [intOf]; omega
          · obtain rfl : k = N := by omega
            have MK := Lib.hid (fun V (hV : Below w4.heap.size w4 V) => (⟨(hV.cell (p := ⟨w2.heap.size, 0, none⟩) hz).trans B4.out.c0, (hV.cell (p := ⟨w2.heap.size, 1, none⟩) hz).trans B4.out.c1, (hV.cell (p := ⟨w2.heap.size, 2, none⟩) hz).trans B4.out.c2⟩ : V.cell? ⟨w2.heap.size, 0, none⟩ = some (.int .i64 zc) ∧ V.cell? ⟨w2.heap.size, 1, none⟩ = some (.int .i64 zl) ∧ V.cell? ⟨w2.heap.size, 2, none⟩ = some (.int .i64 zd)))
            have SM2 := Lib.hid (SM.out zc zl zd)
            go_wp2_with fail
            have HX := Lib.hid (show Below w4.heap.size w4 wr.drew from HW.out.drew)
            have j0 := MK.out _ HX.out
            go_region_held3 (fun V => V.cell? ⟨w2.heap.size, 0, none⟩ = some (.int .i64 zc) ∧ V.cell? ⟨w2.heap.size, 1, none⟩ = some (.int .i64 zl) ∧ V.cell? ⟨w2.heap.size, 2, none⟩ = some (.int .i64 zd))
              (first | exact j0 | exact MK.out _ HX.out)
              (first
              | (go_at_call 13
                 refine (RO2.out _ (H4.out.trans (HX.out.mono H4.out.size))).mono ?_
                 rintro e w8 ⟨rfl, hB8⟩
                 have HX := Lib.hid (HX.out.trans (hB8.mono HX.out.size))
                 clear hB8)
              | (go_at_call 12
                 refine (SM2.out _).mono ?_
                 rintro e w9 ⟨rfl, hB9⟩
                 have HX := Lib.hid (HX.out.trans (hB9.mono HX.out.size))
                 clear hB9)
              | (go_at_call 7
                 refine (LV.out _ (H4.out.trans (HX.out.mono H4.out.size))).mono ?_
                 rintro e w10 ⟨rfl, hB10⟩
                 have HX := Lib.hid (HX.out.trans (hB10.mono HX.out.size))
                 clear hB10))
            all_goals
              go_wp2
              go_ret
              exact ⟨rfl, H4.out.trans (HX.out.mono H4.out.size)⟩
end Go.Proofs.YtkeclfhhilphpaaDoor
