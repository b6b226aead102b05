/- A parameter of steps (of the reference), as the walks read it. -/
import Derived.Test.YtlifdmehejehjaaDoorQMem
import Derived.Deep.Strs
import Derived.Deep.Slices
import Derived.WalkKit
namespace Go.Proofs.YtlifdmehejehjaaDoor
open Go.RowKit Go.ChangeShapes Go.Deep Go.Proofs.YtlifdmehejehjaaDoor.QPlain
set_option linter.unusedVariables false
set_option linter.unusedSimpArgs false
theorem Tryd.cellsSt : Tryd.prog.cellsOf 47 = 3 := by kernel_rfl
theorem Tryd.cellsStS : Tryd.prog.cellsOf 9 = 1 := by kernel_rfl
theorem Tryd.cellsStB : Tryd.prog.cellsOf 4 = 1 := by kernel_rfl
theorem choose_ltQ {α : Type} {n : Nat} {P : Nat → α → Prop} (h : ∀ i, i < n → ∃ x, P i x) : ∃ l : List α, l.length = n ∧ ∀ i, i < n → ∃ x, l[i]? = some x ∧ P i x := by
  induction n with
  | zero => exact ⟨[], rfl, fun i hi => by omega⟩
  | succ n ih =>
    obtain ⟨l, hl, hp⟩ := ih (fun i hi => h i (by omega))
    obtain ⟨x, hx⟩ := h n (by omega)
    refine ⟨l ++ [x], by simp [hl], fun i hi => ?_⟩
    rcases Nat.lt_or_eq_of_le (Nat.lt_succ_iff.1 hi) with h1 | rfl
    · obtain ⟨y, hy, hpy⟩ := hp i h1
      exact ⟨y, by rw [List.getElem?_append_left (by omega)]; exact hy, hpy⟩
    · exact ⟨x, by rw [List.getElem?_append_right (by omega)]; simp [hl], hx⟩
section
variable {H : Type} {enc : TypeId × Value → H} {w : World} {base : Nat} {sp : Nat → Bool} {held : Bool}
set_option maxRecDepth 100000 in
theorem st_of {fuel : Nat} {cs : List Value} {x : DataW H × List MemPlace} (h : DataW.trod enc Tryd.prog w base sp held fuel 47 cs = some x) :
    ∃ e : StN, cs = [.bool e.any, .bool e.deep, .string e.nm] := by
  obtain ⟨ys, n, _, rfl, hlen, hyl, hf⟩ := DataW.trod_struct Tryd.underlying47 h
  rw [Tryd.cellsSt] at hlen
  have f0 := hf 0 _ rfl
  have f1 := hf 1 _ rfl
  have f2 := hf 2 _ rfl
  match cs, hlen with
  | [c0, c1, c2], _ =>
    simp only [List.getElem_toArray, List.getElem_cons_zero, List.getElem_cons_succ, Tryd.cellsStS, Tryd.cellsStB, List.drop_zero, List.take_succ_cons, List.take_zero, List.drop_succ_cons] at f0 f1 f2
    match ys, hyl with
    | [y0, y1, y2], _ =>
      obtain ⟨b0, h0, g0⟩ := DataW.trod_bool Tryd.underlying4 f0
      obtain ⟨b1, h1, g1⟩ := DataW.trod_bool Tryd.underlying4 f1
      obtain ⟨s2, h2, g2, _⟩ := DataW.trod_string Tryd.underlying9 f2
      simp only [List.cons.injEq, and_true] at h0 h1 h2
      subst h0 h1 h2
      exact ⟨⟨b0, b1, s2⟩, rfl⟩
set_option maxRecDepth 100000 in
/-- A parameter of steps. -/
theorem sts_arg {r : Reach} {b0 : Nat} {v : Value} {d : DataW H} {ps : List MemPlace}
    (hval : Value.okWide Tryd.prog w r b0 22 v) (hd : DataW.Trod enc Tryd.prog w base sp held 22 v d ps) :
    ∃ (A : Option Addr) (n cp : Nat) (l : List StN), v = .slice A n cp ∧ StsAt w A n l ∧ n ≤ 9223372036854775807 := by
  obtain ⟨A, n, cp, rfl⟩ := Go.WideShapes.okWide_slice Tryd.underlying22 hval
  obtain ⟨fuel, hf⟩ := hd
  rcases open_slice Tryd.underlying22 hf with ⟨h1, h2⟩ | ⟨a, len, cap, m, n', D, Pl, h1, _, hl, hm, hmm, h2, hx⟩
  · simp [Value.cells] at h1
    obtain ⟨rfl, rfl, rfl⟩ := h1
    exact ⟨none, 0, 0, [], rfl, ⟨rfl, fun i hi => by omega⟩, by omega⟩
  · simp [Value.cells] at h1
    obtain ⟨rfl, rfl, rfl⟩ := h1
    have hle : n ≤ m := by rw [hmm]; split <;> omega
    have hch : ∀ i, i < n → ∃ e : StN, (a.add (i * 3)).block < w.heap.size ∧ w.cell? (a.add (i * 3)) = some (.bool e.any) ∧ w.cell? ⟨(a.add (i * 3)).block, (a.add (i * 3)).off + 1, none⟩ = some (.bool e.deep) ∧ w.cell? ⟨(a.add (i * 3)).block, (a.add (i * 3)).off + 2, none⟩ = some (.string e.nm) := fun i hi => by
      obtain ⟨cs', hc, ht⟩ := hx i (by omega)
      rw [Tryd.cellsSt] at hc
      obtain ⟨_, hcl, hat⟩ := World.cells?_some hc
      obtain ⟨e, rfl⟩ := st_of ht
      have g0 := hat 0 (by decide)
      have g1 := hat 1 (by decide)
      have g2 := hat 2 (by decide)
      have g0' : w.cell? (a.add (i * 3)) = some (.bool e.any) := by simpa [Addr.add] using g0
      exact ⟨e, World.block_lt_of_cell? _ _ g0', g0', by simpa [Addr.add] using g1, by simpa [Addr.add] using g2⟩
    obtain ⟨l, hll, hp⟩ := choose_ltQ hch
    refine ⟨some a, n, cp, l, rfl, ⟨hll, fun i hi => ?_⟩, Nat.le_trans hl (by simpa [maxLen] using hm)⟩
    obtain ⟨x, hx1, hx2⟩ := hp i hi
    exact ⟨a, x, rfl, hx1, (addBlock a (i * 3)) ▸ hx2.1, hx2.2⟩
end
end Go.Proofs.YtlifdmehejehjaaDoor
