/- An element's row is begun; an attribute is laid into it. Conditions: none. -/
import Derived.Test.YtapjmfgpdkghlaaDoorDtCopied
namespace Go.Proofs.YtapjmfgpdkghlaaDoor
open Go.RowKit Go.Maps
set_option linter.unusedVariables false
set_option linter.unusedSimpArgs false
variable {w0 w w' : World} {base tb : Nat} {T : Tm} {en : Ending}
theorem els_map (l : List Elm) : (l.map fun x => (x.na, x.ds.map Df.p)).map (·.1) = l.map Elm.na := by rw [List.map_map]; rfl
theorem st_els (T : Tm) : T.st.els.map (·.1) = T.els.map Elm.na := els_map T.els
/-- The row of an element's name is there, or is laid, with a begun row. -/
theorem putElm (h0 : TabAt w0 base tb T) (hB : Below w0.heap.size w0 w) (name : ByteArray) {R : Rm} (hn : RowAt w w0.heap.size 80 82 5 R [] []) (hb0 : base ≤ w0.heap.size)
    (ha : AddTold base 66 74 2 T.e (T.els.map Elm.na) (elCells T.els) name [.string name, .pointer (some ⟨R.rb, 0, none⟩)] w en w') :
    ∃ T', TabKept w0 w' base tb T T' ∧ T'.st = { T.st with els := addBy (·.1) T.st.els (name, []) } := by
  have h := h0.below hB
  obtain ⟨_, R', hr, hk, hf, hrb⟩ := ha
  have hi := (row_at T).2.2.2
  have hd : ∀ {j : Nat} {b : Rm}, T.rows[j]? = some b → 3 ≠ j → ∀ k, b.foot k → ¬ T.e.foot k := fun hj hne k hb hg => pw_at h.apart hi hj hne k hg hb
  have hblk : w'.heap[tb]? = some (.cells #[.pointer (some ⟨T.g.rb, 0, none⟩), .pointer (some ⟨T.p.rb, 0, none⟩), .pointer (some ⟨T.n.rb, 0, none⟩), .pointer (some ⟨R'.rb, 0, none⟩)] 71 (0, 0)) := by
    rw [hrb]
    exact (hk.block tb (Array.getElem?_eq_some_iff.1 h.blk).1 (h.els.away h.blk (by decide) (by decide))).trans h.blk
  have hold : ∀ y ∈ T.els, RowAt w' base 80 82 5 y.R (y.ds.map (·.p.na)) (dfCells y.ds) := fun y hy => by
    obtain ⟨i, hri, _⟩ := sub_at (T := T) hy
    exact (h.subs y hy).keep hk (hd (j := 4 + i) hri (show (3 : Nat) ≠ 4 + i by omega))
  have hwds : ∀ y ∈ T.els, ∀ d ∈ y.ds, WordsAt w' base d := fun y hy d hdd => (h.words y hy d hdd).keep hk (fun k cs f hh => h.els.away hh (by decide) (by decide))
  have hkeep0 : KeepG w0 w' T.foot := ((KeepG.of_below hB T.foot).trans' (hk.mono (Q := T.foot) fun k _ hg => ⟨T.e, List.mem_of_getElem? hi, hg⟩) (fun k hk _ => hk))
  have hf0 : ∀ k, R'.foot k → T.e.foot k ∨ w0.heap.size ≤ k := fun k hk2 => by
    rcases hf k hk2 with h1 | h1
    · exact .inl h1
    · exact .inr (Nat.le_trans hB.size h1)
  have hset : (T.rows.set 3 R').Pairwise Dj := pw_set h.apart hi hf0 h0.small
  cases hh : hasT (T.els.map Elm.na) name with
  | true =>
    have e1 : addN1 (T.els.map Elm.na) name = T.els.map Elm.na := if_pos hh
    have e2 : addC (T.els.map Elm.na) name (elCells T.els) [.string name, .pointer (some ⟨R.rb, 0, none⟩)] = elCells T.els := if_pos hh
    rw [e1, e2] at hr
    refine ⟨⟨T.g, T.p, T.n, R', T.gens, T.pars, T.nots, T.els⟩, ⟨⟨hblk, h.tbase, h.gens.keep hk (hd (row_at T).1 (by decide)), h.pars.keep hk (hd (row_at T).2.1 (by decide)), h.nots.keep hk (hd (row_at T).2.2.1 (by decide)), hr, hold, hwds, hset⟩, hkeep0, fun k hk2 => foot_set hi hf0 hk2⟩, ?_⟩
    have e3 : addBy (·.1) T.st.els (name, []) = T.st.els := by
      unfold addBy
      rw [if_pos (by rw [st_els]; exact hh)]
    rw [e3]; rfl
  | false =>
    have e1 : addN1 (T.els.map Elm.na) name = (T.els ++ [(⟨name, R, []⟩ : Elm)]).map Elm.na := by
      unfold addN1; rw [if_neg (by rw [hh]; decide), List.map_append]; rfl
    have e2 : addC (T.els.map Elm.na) name (elCells T.els) [.string name, .pointer (some ⟨R.rb, 0, none⟩)] = elCells (T.els ++ [(⟨name, R, []⟩ : Elm)]) := by
      unfold addC elCells; rw [if_neg (by rw [hh]; decide), List.flatMap_append]; rfl
    rw [e1, e2] at hr
    have hfr : ∀ k, R.foot k → w0.heap.size ≤ k := fun k hk2 => (hn.lt hk2).2
    have hRdj : ∀ k, R.foot k → ¬ T.e.foot k := fun k h1 h2 => by
      have h3 := hfr k h1
      have h4 := (h0.els.lt h2).1
      omega
    have hR' : ∀ k, R'.foot k → k < w'.heap.size := fun k hk2 => (hr.lt hk2).1
    refine ⟨⟨T.g, T.p, T.n, R', T.gens, T.pars, T.nots, T.els ++ [(⟨name, R, []⟩ : Elm)]⟩, ⟨⟨hblk, h.tbase, h.gens.keep hk (hd (row_at T).1 (by decide)), h.pars.keep hk (hd (row_at T).2.1 (by decide)), h.nots.keep hk (hd (row_at T).2.2.1 (by decide)), hr, fun y hy => ?_, fun y hy d hdd => ?_, ?_⟩, hkeep0, fun k hk2 => ?_⟩, ?_⟩
    · rcases List.mem_append.1 hy with hy | hy
      · exact hold y hy
      · obtain rfl : y = ⟨name, R, []⟩ := by simpa using hy
        exact (hn.keep hk hRdj).lower hb0
    · rcases List.mem_append.1 hy with hy | hy
      · exact hwds y hy d hdd
      · obtain rfl : y = ⟨name, R, []⟩ := by simpa using hy
        cases hdd
    · have e3 : Tm.rows ⟨T.g, T.p, T.n, R', T.gens, T.pars, T.nots, T.els ++ [(⟨name, R, []⟩ : Elm)]⟩ = T.rows.set 3 R' ++ [R] := by
        unfold Tm.rows
        simp
      rw [e3, List.pairwise_append]
      refine ⟨hset, by simp, fun x hx y hy k hk1 hk2 => ?_⟩
      obtain rfl : y = R := by simpa using hy
      rcases List.mem_or_eq_of_mem_set hx with hx | hx
      · have h3 := hfr k hk2
        have h4 := h0.small x hx k hk1
        omega
      · subst hx
        rcases hf k hk1 with h5 | h5
        · exact hRdj k hk2 h5
        · have := (hn.lt hk2).1
          omega
    · obtain ⟨Q, hQ, hq⟩ := hk2
      have e3 : Tm.rows ⟨T.g, T.p, T.n, R', T.gens, T.pars, T.nots, T.els ++ [(⟨name, R, []⟩ : Elm)]⟩ = T.rows.set 3 R' ++ [R] := by
        unfold Tm.rows
        simp
      rw [e3] at hQ
      rcases List.mem_append.1 hQ with hQ | hQ
      · exact foot_set (l := T.rows) hi hf0 ⟨Q, hQ, hq⟩
      · obtain rfl : Q = R := by simpa using hQ
        exact .inr (hfr k hq)
    · have e3 : addBy (·.1) T.st.els (name, []) = T.st.els ++ [(name, [])] := by
        unfold addBy
        rw [if_neg (by rw [st_els]; show ¬ hasT (T.els.map Elm.na) name = true; rw [hh]; decide)]
      rw [e3]
      unfold Tm.st
      simp
theorem map_set_same {α β : Type} (f : α → β) {l : List α} {i : Nat} {x y : α} (hx : l[i]? = some x) (hf : f y = f x) : (l.set i y).map f = l.map f := by
  obtain ⟨h1, h2⟩ := List.getElem?_eq_some_iff.1 hx
  rw [List.map_set, hf, ← h2]
  apply List.ext_getElem?
  intro j
  rw [List.getElem?_set]
  by_cases e : i = j
  · subst e; simp [h1]
  · rw [if_neg e]
theorem elCells_set {l : List Elm} {i : Nat} {x y : Elm} (hx : l[i]? = some x) (hn : y.na = x.na) (hr : y.R.rb = x.R.rb) : elCells (l.set i y) = elCells l := by
  unfold elCells
  rw [List.flatMap_def, List.flatMap_def, map_set_same _ hx (by rw [hn, hr])]
theorem ds_add (l : List Df) (d : Df) : (addBy (fun x : Df => x.p.na) l d).map Df.p = addBy DfP.na (l.map Df.p) d.p := by
  unfold addBy
  rw [List.map_map]
  by_cases h : hasT (l.map (fun x : Df => x.p.na)) d.p.na = true
  · rw [if_pos h, if_pos (show hasT (l.map (DfP.na ∘ Df.p)) d.p.na = true from h)]
  · rw [if_neg h, if_neg (show ¬ hasT (l.map (DfP.na ∘ Df.p)) d.p.na = true from h), List.map_append]; rfl
theorem putSub (h : TabAt w base tb T) {i : Nat} {x : Elm} (hx : T.els[i]? = some x) (d : Df) (hw : WordsAt w base d)
    (ha : AddTold base 80 82 5 x.R (x.ds.map (·.p.na)) (dfCells x.ds) d.p.na d.cells w en w') :
    ∃ T' x', TabKept w w' base tb T T' ∧ T'.els[i]? = some x' ∧ x'.R.rb = x.R.rb ∧ x'.na = x.na ∧ x'.ds.map Df.p = addBy DfP.na (x.ds.map Df.p) d.p ∧ T'.st = { T.st with els := T.st.els.set i (x.na, addBy DfP.na (x.ds.map Df.p) d.p) } := by
  obtain ⟨_, R', hr, hk, hf, hrb⟩ := ha
  rw [names_add (fun x : Df => x.p.na)] at hr
  rw [show addC (x.ds.map (·.p.na)) d.p.na (dfCells x.ds) d.cells = dfCells (addBy (·.p.na) x.ds d) from cells_add (fun x : Df => x.p.na) Df.cells x.ds d] at hr
  obtain ⟨hlt, hxe⟩ := List.getElem?_eq_some_iff.1 hx
  have hxm := List.mem_of_getElem? hx
  have hi : T.rows[4 + i]? = some x.R := by
    unfold Tm.rows
    rw [show 4 + i = i + 1 + 1 + 1 + 1 by omega]
    simp [hlt, hxe]
  have hd : ∀ {j : Nat} {b : Rm}, T.rows[j]? = some b → 4 + i ≠ j → ∀ k, b.foot k → ¬ x.R.foot k := fun hj hne k hb hg => pw_at h.apart hi hj hne k hg hb
  have hsx := h.subs x hxm
  have hwd : ∀ e : Df, WordsAt w base e → WordsAt w' base e := fun e he => he.keep hk (fun k cs f hh => hsx.away hh (by decide) (by decide))
  refine ⟨⟨T.g, T.p, T.n, T.e, T.gens, T.pars, T.nots, T.els.set i ⟨x.na, R', addBy (·.p.na) x.ds d⟩⟩, ⟨x.na, R', addBy (·.p.na) x.ds d⟩, ⟨⟨?_, h.tbase, h.gens.keep hk (hd (j := 0) (row_at T).1 (by omega)), h.pars.keep hk (hd (j := 1) (row_at T).2.1 (by omega)), h.nots.keep hk (hd (j := 2) (row_at T).2.2.1 (by omega)), ?_, fun y hy => ?_, fun y hy e he => ?_, ?_⟩, hk.mono fun k _ hg => ⟨x.R, List.mem_of_getElem? hi, hg⟩, fun k hk2 => ?_⟩, by rw [List.getElem?_set]; simp [hlt], hrb, rfl, ds_add x.ds d, ?_⟩
  · exact (hk.block tb (Array.getElem?_eq_some_iff.1 h.blk).1 (hsx.away h.blk (by decide) (by decide))).trans h.blk
  · have he := h.els.keep hk (hd (j := 3) (row_at T).2.2.2 (by omega))
    show RowAt w' base _ _ 2 T.e ((T.els.set i _).map Elm.na) (elCells (T.els.set i _))
    rw [elCells_set (y := ⟨x.na, R', addBy (·.p.na) x.ds d⟩) hx rfl hrb, map_set_same (y := ⟨x.na, R', addBy (·.p.na) x.ds d⟩) Elm.na hx rfl]
    exact he
  · obtain ⟨j, hj, hje⟩ := List.getElem_of_mem hy
    rw [List.length_set] at hj
    rw [List.getElem_set] at hje
    by_cases e : i = j
    · rw [if_pos e] at hje; rw [← hje]; exact hr
    · rw [if_neg e] at hje
      have hyj : T.els[j]? = some y := by rw [List.getElem?_eq_getElem hj, hje]
      have hrj : T.rows[4 + j]? = some y.R := by
        unfold Tm.rows
        rw [show 4 + j = j + 1 + 1 + 1 + 1 by omega]
        simp [hj, hje]
      exact (h.subs y (List.mem_of_getElem? hyj)).keep hk (hd (j := 4 + j) hrj (by omega))
  · rcases List.mem_or_eq_of_mem_set hy with hy | hy
    · exact hwd e (h.words y hy e he)
    · subst hy
      unfold addBy at he
      split at he
      · exact hwd e (h.words x hxm e he)
      · rcases List.mem_append.1 he with he | he
        · exact hwd e (h.words x hxm e he)
        · obtain rfl : e = d := by simpa using he
          exact hwd e hw
  · have e3 : Tm.rows ⟨T.g, T.p, T.n, T.e, T.gens, T.pars, T.nots, T.els.set i ⟨x.na, R', addBy (·.p.na) x.ds d⟩⟩ = T.rows.set (4 + i) R' := by
      unfold Tm.rows
      rw [show 4 + i = i + 1 + 1 + 1 + 1 by omega]
      simp [List.map_set]
    rw [e3]
    exact pw_set h.apart hi hf h.small
  · have e3 : Tm.rows ⟨T.g, T.p, T.n, T.e, T.gens, T.pars, T.nots, T.els.set i ⟨x.na, R', addBy (·.p.na) x.ds d⟩⟩ = T.rows.set (4 + i) R' := by
      unfold Tm.rows
      rw [show 4 + i = i + 1 + 1 + 1 + 1 by omega]
      simp [List.map_set]
    obtain ⟨Q, hQ, hq⟩ := hk2
    rw [e3] at hQ
    exact foot_set (l := T.rows) hi hf ⟨Q, hQ, hq⟩
  · unfold Tm.st
    simp only [List.map_set, ds_add]
end Go.Proofs.YtapjmfgpdkghlaaDoor
