/- What is laid into a table's row leaves the others. Conditions: none. -/
import Derived.Test.YtapjmfgpdkghlaaDoorDtTab
namespace Go.Proofs.YtapjmfgpdkghlaaDoor
open Go.RowKit Go.Maps
set_option linter.unusedVariables false
set_option linter.unusedSimpArgs false
theorem KeepG.trans' {w w1 w2 : World} {P Q : Nat → Prop} (h : KeepG w w1 P) (h2 : KeepG w1 w2 Q) (hp : ∀ k, Q k → k < w.heap.size → P k) : KeepG w w2 P :=
  ⟨h2.os.trans h.os, h2.tape.trans h.tape, h2.output.trans h.output, Nat.le_trans h.size h2.size, fun k hk hn => (h2.block k (Nat.lt_of_lt_of_le hk h.size) (fun hq => hn (hp k hq hk))).trans (h.block k hk hn)⟩
def Tm.foot (T : Tm) (k : Nat) : Prop := ∃ R ∈ T.rows, R.foot k
structure TabKept (w w' : World) (base tb : Nat) (T T' : Tm) : Prop where
  tab : TabAt w' base tb T'
  keep : KeepG w w' T.foot
  foot : ∀ k, T'.foot k → T.foot k ∨ w.heap.size ≤ k
theorem TabKept.refl {w w' : World} {base tb : Nat} {T : Tm} (h : TabAt w base tb T) (hb : Below w.heap.size w w') : TabKept w w' base tb T T := ⟨h.below hb, KeepG.of_below hb _, fun k hk => .inl hk⟩
theorem TabKept.trans {w w1 w2 : World} {base tb : Nat} {T T1 T2 : Tm} (h : TabKept w w1 base tb T T1) (h2 : TabKept w1 w2 base tb T1 T2) : TabKept w w2 base tb T T2 := by
  refine ⟨h2.tab, ?_, fun k hk => ?_⟩
  · refine h.keep.trans' h2.keep fun k hk hlt => ?_
    rcases h.foot k hk with h3 | h3
    · exact h3
    · omega
  · rcases h2.foot k hk with h3 | h3
    · rcases h.foot k h3 with h4 | h4
      · exact .inl h4
      · exact .inr h4
    · exact .inr (Nat.le_trans h.keep.size h3)
variable {w w' : World} {base tb : Nat} {T : Tm} {en : Ending}
theorem names_add {α : Type} (f : α → ByteArray) (l : List α) (x : α) : addN1 (l.map f) (f x) = (addBy f l x).map f := by
  unfold addN1 addBy
  by_cases h : hasT (l.map f) (f x) = true
  · rw [if_pos h, if_pos h]
  · rw [if_neg h, if_neg h, List.map_append]; rfl
theorem cells_add {α : Type} (f : α → ByteArray) (c : α → List Value) (l : List α) (x : α) : addC (l.map f) (f x) (l.flatMap c) (c x) = (addBy f l x).flatMap c := by
  unfold addC addBy
  by_cases h : hasT (l.map f) (f x) = true
  · rw [if_pos h, if_pos h]
  · rw [if_neg h, if_neg h, List.flatMap_append]; simp
theorem row_at (T : Tm) : T.rows[0]? = some T.g ∧ T.rows[1]? = some T.p ∧ T.rows[2]? = some T.n ∧ T.rows[3]? = some T.e := ⟨rfl, rfl, rfl, rfl⟩
theorem foot_set {l : List Rm} {i : Nat} {a b : Rm} {N : Nat} (hi : l[i]? = some a) (hb : ∀ k, b.foot k → a.foot k ∨ N ≤ k) {k : Nat} (hk : ∃ R ∈ l.set i b, R.foot k) : (∃ R ∈ l, R.foot k) ∨ N ≤ k := by
  obtain ⟨R, hR, hf⟩ := hk
  rcases List.mem_or_eq_of_mem_set hR with h | h
  · exact .inl ⟨R, h, hf⟩
  · subst h
    rcases hb k hf with h2 | h2
    · exact .inl ⟨a, List.mem_of_getElem? hi, h2⟩
    · exact .inr h2
theorem putGen (h : TabAt w base tb T) (x : Ent) (ha : AddTold base 87 46 6 T.g (T.gens.map Ent.na) (entCells T.gens) x.na x.cells w en w') :
    ∃ T', TabKept w w' base tb T T' ∧ T'.st = { T.st with gens := addBy Ent.na T.gens x } := by
  obtain ⟨_, R', hr, hk, hf, hrb⟩ := ha
  rw [names_add] at hr
  rw [show addC (T.gens.map Ent.na) x.na (entCells T.gens) x.cells = entCells (addBy Ent.na T.gens x) from cells_add Ent.na Ent.cells T.gens x] at hr
  have hi := (row_at T).1
  have hd : ∀ {j : Nat} {b : Rm}, T.rows[j]? = some b → 0 ≠ j → ∀ k, b.foot k → ¬ T.g.foot k := fun hj hne k hb hg => pw_at h.apart hi hj hne k hg hb
  refine ⟨⟨R', T.p, T.n, T.e, addBy Ent.na T.gens x, T.pars, T.nots, T.els⟩, ⟨⟨?_, h.tbase, hr, h.pars.keep hk (hd (row_at T).2.1 (by decide)), h.nots.keep hk (hd (row_at T).2.2.1 (by decide)), h.els.keep hk (hd (row_at T).2.2.2 (by decide)), fun y hy => ?_, fun y hy d hdd => (h.words y hy d hdd).keep hk (fun k cs f hh => h.gens.away hh (by decide) (by decide)), ?_⟩, ?_, ?_⟩, rfl⟩
  · rw [show (Rm.rb R') = T.g.rb from hrb]
    exact (hk.block tb (Array.getElem?_eq_some_iff.1 h.blk).1 (h.gens.away h.blk (by decide) (by decide))).trans h.blk
  · obtain ⟨i, hri, _⟩ := sub_at (T := T) hy
    exact (h.subs y hy).keep hk (hd (j := 4 + i) hri (show (0 : Nat) ≠ 4 + i by omega))
  · exact pw_set h.apart hi hf h.small
  · exact hk.mono fun k _ hg => ⟨T.g, List.mem_of_getElem? hi, hg⟩
  · exact fun k hk2 => foot_set hi hf hk2
theorem putPar (h : TabAt w base tb T) (x : Ent) (ha : AddTold base 87 46 6 T.p (T.pars.map Ent.na) (entCells T.pars) x.na x.cells w en w') :
    ∃ T', TabKept w w' base tb T T' ∧ T'.st = { T.st with pars := addBy Ent.na T.pars x } := by
  obtain ⟨_, R', hr, hk, hf, hrb⟩ := ha
  rw [names_add] at hr
  rw [show addC (T.pars.map Ent.na) x.na (entCells T.pars) x.cells = entCells (addBy Ent.na T.pars x) from cells_add Ent.na Ent.cells T.pars x] at hr
  have hi := (row_at T).2.1
  have hd : ∀ {j : Nat} {b : Rm}, T.rows[j]? = some b → 1 ≠ j → ∀ k, b.foot k → ¬ T.p.foot k := fun hj hne k hb hg => pw_at h.apart hi hj hne k hg hb
  refine ⟨⟨T.g, R', T.n, T.e, T.gens, addBy Ent.na T.pars x, T.nots, T.els⟩, ⟨⟨?_, h.tbase, h.gens.keep hk (hd (row_at T).1 (by decide)), hr, h.nots.keep hk (hd (row_at T).2.2.1 (by decide)), h.els.keep hk (hd (row_at T).2.2.2 (by decide)), fun y hy => ?_, fun y hy d hdd => (h.words y hy d hdd).keep hk (fun k cs f hh => h.pars.away hh (by decide) (by decide)), ?_⟩, ?_, ?_⟩, rfl⟩
  · rw [show (Rm.rb R') = T.p.rb from hrb]
    exact (hk.block tb (Array.getElem?_eq_some_iff.1 h.blk).1 (h.pars.away h.blk (by decide) (by decide))).trans h.blk
  · obtain ⟨i, hri, _⟩ := sub_at (T := T) hy
    exact (h.subs y hy).keep hk (hd (j := 4 + i) hri (show (1 : Nat) ≠ 4 + i by omega))
  · exact pw_set h.apart hi hf h.small
  · exact hk.mono fun k _ hg => ⟨T.p, List.mem_of_getElem? hi, hg⟩
  · exact fun k hk2 => foot_set hi hf hk2
theorem putNot (h : TabAt w base tb T) (x : Nt) (ha : AddTold base 91 44 2 T.n (T.nots.map (·.1)) (ntCells T.nots) x.1 [.string x.2.1, .string x.2.2] w en w') :
    ∃ T', TabKept w w' base tb T T' ∧ T'.st = { T.st with nots := addBy (·.1) T.nots x } := by
  obtain ⟨_, R', hr, hk, hf, hrb⟩ := ha
  rw [names_add (fun x : Nt => x.1)] at hr
  rw [show addC (T.nots.map (·.1)) x.1 (ntCells T.nots) [.string x.2.1, .string x.2.2] = ntCells (addBy (·.1) T.nots x) from cells_add (fun x : Nt => x.1) (fun x => [.string x.2.1, .string x.2.2]) T.nots x] at hr
  have hi := (row_at T).2.2.1
  have hd : ∀ {j : Nat} {b : Rm}, T.rows[j]? = some b → 2 ≠ j → ∀ k, b.foot k → ¬ T.n.foot k := fun hj hne k hb hg => pw_at h.apart hi hj hne k hg hb
  refine ⟨⟨T.g, T.p, R', T.e, T.gens, T.pars, addBy (·.1) T.nots x, T.els⟩, ⟨⟨?_, h.tbase, h.gens.keep hk (hd (row_at T).1 (by decide)), h.pars.keep hk (hd (row_at T).2.1 (by decide)), hr, h.els.keep hk (hd (row_at T).2.2.2 (by decide)), fun y hy => ?_, fun y hy d hdd => (h.words y hy d hdd).keep hk (fun k cs f hh => h.nots.away hh (by decide) (by decide)), ?_⟩, ?_, ?_⟩, rfl⟩
  · rw [show (Rm.rb R') = T.n.rb from hrb]
    exact (hk.block tb (Array.getElem?_eq_some_iff.1 h.blk).1 (h.nots.away h.blk (by decide) (by decide))).trans h.blk
  · obtain ⟨i, hri, _⟩ := sub_at (T := T) hy
    exact (h.subs y hy).keep hk (hd (j := 4 + i) hri (show (2 : Nat) ≠ 4 + i by omega))
  · exact pw_set h.apart hi hf h.small
  · exact hk.mono fun k _ hg => ⟨T.n, List.mem_of_getElem? hi, hg⟩
  · exact fun k hk2 => foot_set hi hf hk2
end Go.Proofs.YtapjmfgpdkghlaaDoor
