/- A table of declarations in memory: four rows, and a row for each element. Conditions: none. -/
import Derived.Test.YtapjmfgpdkghlaaDoorDtNew
import Derived.Test.YtapjmfgpdkghlaaDoorTexts
namespace Go.Proofs.YtapjmfgpdkghlaaDoor
open Go.RowKit Go.Maps
set_option linter.unusedVariables false
set_option linter.unusedSimpArgs false
def Ent.cells (e : Ent) : List Value := [.string e.na, .string e.tx, .bool e.out, .string e.pu, .string e.sy, .string e.no]
def entCells (l : List Ent) : List Value := l.flatMap Ent.cells
def Df.cells (d : Df) : List Value := [.string d.p.na, .int .i64 d.p.ki, .slice d.A d.p.ws.length d.c, .int .i64 d.p.mo, .string d.p.va]
def dfCells (l : List Df) : List Value := l.flatMap Df.cells
abbrev Nt := ByteArray × ByteArray × ByteArray
def ntCells (l : List Nt) : List Value := l.flatMap fun x => [.string x.2.1, .string x.2.2]
structure Elm where
  na : ByteArray
  R : Rm
  ds : List Df
def elCells (l : List Elm) : List Value := l.flatMap fun x => [.string x.na, .pointer (some ⟨x.R.rb, 0, none⟩)]
structure Tm where
  g : Rm
  p : Rm
  n : Rm
  e : Rm
  gens : List Ent
  pars : List Ent
  nots : List Nt
  els : List Elm
def Tm.st (T : Tm) : TSt := ⟨T.gens, T.pars, T.nots, T.els.map fun x => (x.na, x.ds.map Df.p)⟩
def Tm.rows (T : Tm) : List Rm := T.g :: T.p :: T.n :: T.e :: T.els.map Elm.R
def Dj (a b : Rm) : Prop := ∀ k, a.foot k → ¬ b.foot k
theorem Dj.symm {a b : Rm} (h : Dj a b) : Dj b a := fun k hb ha => h k ha hb
theorem pw_at {l : List Rm} (h : l.Pairwise Dj) {i j : Nat} {a b : Rm} (hi : l[i]? = some a) (hj : l[j]? = some b) (hne : i ≠ j) : Dj a b := by
  obtain ⟨h1, h2⟩ := List.getElem?_eq_some_iff.1 hi
  obtain ⟨h3, h4⟩ := List.getElem?_eq_some_iff.1 hj
  have hp := List.pairwise_iff_getElem.1 h
  rcases Nat.lt_or_gt_of_ne hne with hlt | hlt
  · have := hp i j h1 h3 hlt; rwa [h2, h4] at this
  · have := hp j i h3 h1 hlt; rw [h2, h4] at this; exact this.symm
theorem pw_set {l : List Rm} (h : l.Pairwise Dj) {i : Nat} {a b : Rm} {N : Nat} (hi : l[i]? = some a) (hb : ∀ k, b.foot k → a.foot k ∨ N ≤ k) (hN : ∀ x ∈ l, ∀ k, x.foot k → k < N) : (l.set i b).Pairwise Dj := by
  rw [List.pairwise_iff_getElem]
  intro x y hx hy hxy
  rw [List.length_set] at hx hy
  have key : ∀ {j : Nat} (hj : j < l.length), j ≠ i → Dj b l[j] := fun {j} hj hne k hk hk2 => by
    rcases hb k hk with h1 | h1
    · exact pw_at h hi (List.getElem?_eq_getElem hj) (fun e => hne e.symm) k h1 hk2
    · have := hN _ (List.getElem_mem hj) k hk2
      omega
  rw [List.getElem_set, List.getElem_set]
  by_cases e1 : i = x
  · subst e1
    rw [if_pos rfl, if_neg (by omega)]
    exact key hy (by omega)
  · rw [if_neg e1]
    by_cases e2 : i = y
    · subst e2
      rw [if_pos rfl]
      exact (key hx (by omega)).symm
    · rw [if_neg e2]
      exact List.pairwise_iff_getElem.1 h x y hx hy hxy
theorem pw_snoc {l : List Rm} (h : l.Pairwise Dj) {b : Rm} {N : Nat} (hb : ∀ k, b.foot k → N ≤ k) (hN : ∀ x ∈ l, ∀ k, x.foot k → k < N) : (l ++ [b]).Pairwise Dj := by
  rw [List.pairwise_append]
  refine ⟨h, by simp, ?_⟩
  intro x hx y hy
  simp at hy
  subst hy
  intro k hk hk2
  have h1 := hb k hk2
  have h2 := hN x hx k hk
  omega
def WordsAt (w : World) (base : Nat) (d : Df) : Prop := w.ownsRow base 9 1 (.slice d.A d.p.ws.length d.c) d.p.ws.length (txtCells d.p.ws)
structure TabAt (w : World) (base tb : Nat) (T : Tm) : Prop where
  blk : w.heap[tb]? = some (.cells #[.pointer (some ⟨T.g.rb, 0, none⟩), .pointer (some ⟨T.p.rb, 0, none⟩), .pointer (some ⟨T.n.rb, 0, none⟩), .pointer (some ⟨T.e.rb, 0, none⟩)] 71 (0, 0))
  tbase : base ≤ tb
  gens : RowAt w base 87 46 6 T.g (T.gens.map Ent.na) (entCells T.gens)
  pars : RowAt w base 87 46 6 T.p (T.pars.map Ent.na) (entCells T.pars)
  nots : RowAt w base 91 44 2 T.n (T.nots.map (·.1)) (ntCells T.nots)
  els : RowAt w base 66 74 2 T.e (T.els.map Elm.na) (elCells T.els)
  subs : ∀ x ∈ T.els, RowAt w base 80 82 5 x.R (x.ds.map (·.p.na)) (dfCells x.ds)
  words : ∀ x ∈ T.els, ∀ d ∈ x.ds, WordsAt w base d
  apart : T.rows.Pairwise Dj
theorem RowAt.away {w : World} {base : Nat} {t e : TypeId} {sz : Nat} {R : Rm} {ns : List ByteArray} {xs : List Value} (h : RowAt w base t e sz R ns xs) {k : Nat} {cs : Array Value} {u : TypeId} {f : Nat × Nat} (hk : w.heap[k]? = some (.cells cs u f)) (h1 : ¬ u = t) (h2 : ¬ u = e) : ¬ R.foot k := by
  rintro (rfl | rfl | hv)
  · rw [show w.heap[R.rb]? = _ from h.blk] at hk
    injection hk with hk
    injection hk with _ hk _
    exact h1 hk.symm
  · exact map_not_cellsD h.map hk rfl
  · rw [ownBlock_len _ 0 ns.length] at hv
    obtain ⟨_, _, ds, hh⟩ := own_blk h.row hv
    rw [hh] at hk
    injection hk with hk
    injection hk with _ hk _
    exact h2 hk.symm
variable {w w' : World} {base tb : Nat} {T : Tm}
theorem WordsAt.keep {d : Df} {P : Nat → Prop} (h : WordsAt w base d) (hk : KeepG w w' P) (hp : ∀ k cs f, w.heap[k]? = some (.cells cs 9 f) → ¬ P k) : WordsAt w' base d :=
  own_same h (fun b hb => by
    obtain ⟨h1, _, cs, hh⟩ := own_blk h hb
    exact hk.block b h1 (hp b _ _ hh))
theorem WordsAt.below {d : Df} (h : WordsAt w base d) (hb : Below w.heap.size w w') : WordsAt w' base d := h.keep (KeepG.of_below hb (fun _ => False)) (fun _ _ _ _ h => h)
theorem TabAt.below (h : TabAt w base tb T) (hb : Below w.heap.size w w') : TabAt w' base tb T :=
  ⟨(hb.block tb (Array.getElem?_eq_some_iff.1 h.blk).1).trans h.blk, h.tbase, h.gens.below hb, h.pars.below hb, h.nots.below hb, h.els.below hb, fun x hx => (h.subs x hx).below hb, fun x hx d hd => (h.words x hx d hd).below hb, h.apart⟩
theorem TabAt.small (h : TabAt w base tb T) : ∀ x ∈ T.rows, ∀ k, x.foot k → k < w.heap.size := by
  intro x hx k hk
  unfold Tm.rows at hx
  simp only [List.mem_cons] at hx
  rcases hx with rfl | rfl | rfl | rfl | hx
  · exact (h.gens.lt hk).1
  · exact (h.pars.lt hk).1
  · exact (h.nots.lt hk).1
  · exact (h.els.lt hk).1
  · obtain ⟨y, hy, rfl⟩ := List.mem_map.1 hx
    exact ((h.subs y hy).lt hk).1
theorem sub_at {T : Tm} {x : Elm} (hx : x ∈ T.els) : ∃ i, T.rows[4 + i]? = some x.R ∧ T.els[i]? = some x := by
  obtain ⟨i, hi, rfl⟩ := List.getElem_of_mem hx
  refine ⟨i, ?_, List.getElem?_eq_getElem hi⟩
  unfold Tm.rows
  rw [show 4 + i = i + 1 + 1 + 1 + 1 by omega]
  simp [hi]
end Go.Proofs.YtapjmfgpdkghlaaDoor
