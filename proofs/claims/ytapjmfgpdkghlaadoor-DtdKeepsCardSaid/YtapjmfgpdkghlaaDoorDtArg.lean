/- A parameter of declarations, as the walks read it. -/
import Derived.Test.YtapjmfgpdkghlaaDoorDtDcl
import Derived.Deep.Slices
import Derived.Deep.Strs
import Derived.ChangeSlices
import Derived.WideShapes
import Derived.OpenShut
namespace Go.Proofs.YtapjmfgpdkghlaaDoor
open Go.RowKit Go.ChangeShapes Go.Deep
set_option linter.unusedVariables false
set_option linter.unusedSimpArgs false
theorem Tryd.cellsDgC : Tryd.prog.cellsOf 54 = 13 := by kernel_rfl
theorem Tryd.cellsDgE : Tryd.prog.cellsOf 46 = 6 := by kernel_rfl
theorem Tryd.cellsDgD : Tryd.prog.cellsOf 84 = 5 := by kernel_rfl
theorem Tryd.cellsDgI : Tryd.prog.cellsOf 44 = 2 := by kernel_rfl
theorem Tryd.cellsDgS : Tryd.prog.cellsOf 9 = 1 := by kernel_rfl
theorem Tryd.cellsDgB : Tryd.prog.cellsOf 4 = 1 := by kernel_rfl
theorem Tryd.cellsDgN : Tryd.prog.cellsOf 3 = 1 := by kernel_rfl
theorem Tryd.cellsDgW : Tryd.prog.cellsOf 28 = 1 := by kernel_rfl
theorem Tryd.cellsDgL : Tryd.prog.cellsOf 33 = 1 := by kernel_rfl
theorem choose_ltD {α : Type} {n : Nat} {P : Nat → α → Prop} (h : ∀ i, i < n → ∃ x, P i x) : ∃ l : List α, l.length = n ∧ ∀ i, i < n → ∃ x, l[i]? = some x ∧ P i x := by
  induction n with
  | zero => exact ⟨[], rfl, fun i hi => by omega⟩
  | succ n ih =>
    obtain ⟨l, hl, hp⟩ := ih (fun i hi => h i (by omega))
    obtain ⟨x, hx⟩ := h n (by omega)
    refine ⟨l ++ [x], by simp [hl], fun i hi => ?_⟩
    rcases Nat.lt_or_eq_of_le (Nat.lt_succ_iff.1 hi) with h1 | rfl
    · obtain ⟨y, hy, hpy⟩ := hp i h1
      exact ⟨y, by rw [List.getElem?_append_left (by omega)]; exact hy, hpy⟩
    · exact ⟨x, by rw [List.getElem?_append_right (by omega)]; simp [hl], hx⟩
section
variable {H : Type} {enc : TypeId × Value → H} {w : World} {base : Nat} {sp : Nat → Bool} {held : Bool}
set_option maxRecDepth 100000 in
theorem words_of {fuel : Nat} {c : Value} {x : DataW H × List MemPlace} (hf : DataW.trod enc Tryd.prog w base sp held fuel 28 [c] = some x) :
    ∃ (A : Option Addr) (cp : Nat) (l : List ByteArray), c = .slice A l.length cp ∧ TsAt w A l.length l := by
  rcases open_strs Tryd.underlying28 Tryd.underlying9 Tryd.cellsDgS hf with ⟨h1, _⟩ | ⟨a, n, cap, m, Sx, h1, _, hl, hm, hmm, _, hx⟩
  · simp at h1
    subst h1
    exact ⟨none, 0, [], rfl, rfl, fun k hk => absurd hk (Nat.not_lt_zero _)⟩
  · simp at h1
    subst h1
    have hle : n ≤ m := by rw [hmm]; split <;> omega
    refine ⟨some a, cap, (List.range n).map Sx, by simp, by simp, fun i hi => ?_⟩
    have hi : i < n := by simpa using hi
    refine ⟨a, Sx i, rfl, by simp [hi], ?_, (hx i (by omega)).1⟩
    have := World.block_lt_of_cell? _ _ (hx i (by omega)).1
    rwa [addBlockT] at this
theorem ids_of {fuel : Nat} {c0 c1 : Value} {x : DataW H × List MemPlace} (h : DataW.trod enc Tryd.prog w base sp held fuel 44 [c0, c1] = some x) :
    ∃ s l : ByteArray, c0 = .string s ∧ c1 = .string l := by
  obtain ⟨ys, n, _, rfl, _, hyl, hf⟩ := DataW.trod_struct Tryd.underlying44 h
  have f0 := hf 0 _ rfl
  have f1 := hf 1 _ rfl
  simp only [List.getElem_toArray, List.getElem_cons_zero, List.getElem_cons_succ, Tryd.cellsDgS, List.drop_zero, List.take_succ_cons, List.take_zero, List.drop_succ_cons] at f0 f1
  match ys, hyl with
  | [y0, y1], _ =>
    obtain ⟨s, h1, _⟩ := DataW.trod_string Tryd.underlying9 f0
    obtain ⟨l, h3, _⟩ := DataW.trod_string Tryd.underlying9 f1
    simp only [List.cons.injEq, and_true] at h1 h3
    exact ⟨s, l, h1, h3⟩
set_option maxRecDepth 100000 in
theorem entD_of {fuel : Nat} {c0 c1 c2 c3 c4 c5 : Value} {x : DataW H × List MemPlace} (h : DataW.trod enc Tryd.prog w base sp held fuel 46 [c0, c1, c2, c3, c4, c5] = some x) :
    ∃ e : Ent, c0 = .string e.na ∧ c1 = .string e.tx ∧ c2 = .bool e.out ∧ c3 = .string e.pu ∧ c4 = .string e.sy ∧ c5 = .string e.no := by
  obtain ⟨ys, n, _, rfl, hlen, hyl, hf⟩ := DataW.trod_struct Tryd.underlying46 h
  have f0 := hf 0 _ rfl
  have f1 := hf 1 _ rfl
  have f2 := hf 2 _ rfl
  have f3 := hf 3 _ rfl
  have f4 := hf 4 _ rfl
  simp only [List.getElem_toArray, List.getElem_cons_zero, List.getElem_cons_succ, Tryd.cellsDgS, Tryd.cellsDgB, Tryd.cellsDgI, List.drop_zero, List.take_succ_cons, List.take_zero, List.drop_succ_cons] at f0 f1 f2 f3 f4
  match ys, hyl with
  | [y0, y1, y2, y3, y4], _ =>
    obtain ⟨s0, h0, _⟩ := DataW.trod_string Tryd.underlying9 f0
    obtain ⟨s1, h1, _⟩ := DataW.trod_string Tryd.underlying9 f1
    obtain ⟨b2, h2, _⟩ := DataW.trod_bool Tryd.underlying4 f2
    obtain ⟨s3, s4, h3, h4⟩ := ids_of f3
    obtain ⟨s5, h5, _⟩ := DataW.trod_string Tryd.underlying9 f4
    simp only [List.cons.injEq, and_true] at h0 h1 h2 h5
    exact ⟨⟨s0, s1, b2, s3, s4, s5⟩, h0, h1, h2, h3, h4, h5⟩
set_option maxRecDepth 100000 in
theorem def_of {fuel : Nat} {cs : List Value} {x : DataW H × List MemPlace} (h : DataW.trod enc Tryd.prog w base sp held fuel 84 cs = some x) :
    ∃ d : Df, cs = [.string d.p.na, .int .i64 d.p.ki, .slice d.A d.p.ws.length d.c, .int .i64 d.p.mo, .string d.p.va] ∧ TsAt w d.A d.p.ws.length d.p.ws := by
  obtain ⟨ys, n, _, rfl, hlen, hyl, hf⟩ := DataW.trod_struct Tryd.underlying84 h
  rw [Tryd.cellsDgD] at hlen
  have f0 := hf 0 _ rfl
  have f1 := hf 1 _ rfl
  have f2 := hf 2 _ rfl
  have f3 := hf 3 _ rfl
  have f4 := hf 4 _ rfl
  match cs, hlen with
  | [c0, c1, c2, c3, c4], _ =>
    simp only [List.getElem_toArray, List.getElem_cons_zero, List.getElem_cons_succ, Tryd.cellsDgS, Tryd.cellsDgN, Tryd.cellsDgW, List.drop_zero, List.take_succ_cons, List.take_zero, List.drop_succ_cons] at f0 f1 f2 f3 f4
    match ys, hyl with
    | [y0, y1, y2, y3, y4], _ =>
      obtain ⟨s0, h0, _⟩ := DataW.trod_string Tryd.underlying9 f0
      obtain ⟨n1, h1, _⟩ := DataW.trod_int Tryd.underlying3 f1
      obtain ⟨A, cp, ws, h2, hw⟩ := words_of f2
      obtain ⟨n3, h3, _⟩ := DataW.trod_int Tryd.underlying3 f3
      obtain ⟨s4, h4, _⟩ := DataW.trod_string Tryd.underlying9 f4
      simp only [List.cons.injEq, and_true] at h0 h1 h3 h4
      subst h0 h1 h2 h3 h4
      exact ⟨⟨⟨s0, n1, ws, n3, s4⟩, A, cp⟩, rfl, hw⟩
set_option maxRecDepth 100000 in
theorem defs_of {fuel : Nat} {c : Value} {x : DataW H × List MemPlace} (h : DataW.trod enc Tryd.prog w base sp held fuel 33 [c] = some x) :
    ∃ (A : Option Addr) (cp : Nat) (l : List Df), c = .slice A l.length cp ∧ DfsAt w A l.length l := by
  rcases open_slice Tryd.underlying33 h with ⟨h1, h2⟩ | ⟨a, n, cap, m, n', D, Pl, h1, _, hl, hm, hmm, h2, hx⟩
  · simp only [List.cons.injEq, and_true] at h1
    exact ⟨none, 0, [], h1, rfl, fun i hi => absurd hi (Nat.not_lt_zero _)⟩
  · simp only [List.cons.injEq, and_true] at h1
    have hle : n ≤ m := by rw [hmm]; split <;> omega
    have hch : ∀ i, i < n → ∃ d : Df, DfCell w (a.add (i * 5)) d ∧ TsAt w d.A d.p.ws.length d.p.ws := fun i hi => by
      obtain ⟨cs', hc, ht⟩ := hx i (by omega)
      rw [Tryd.cellsDgD] at hc
      obtain ⟨_, hcl, hat⟩ := World.cells?_some hc
      obtain ⟨d, rfl, hw⟩ := def_of ht
      have g0 := hat 0 (by decide)
      have g1 := hat 1 (by decide)
      have g2 := hat 2 (by decide)
      have g3 := hat 3 (by decide)
      have g4 := hat 4 (by decide)
      have g0' : w.cell? (a.add (i * 5)) = some (.string d.p.na) := by simpa [Addr.add] using g0
      exact ⟨d, ⟨World.block_lt_of_cell? _ _ g0', g0', by simpa [Addr.add] using g1, by simpa [Addr.add] using g2, by simpa [Addr.add] using g3, by simpa [Addr.add] using g4⟩, hw⟩
    obtain ⟨l, hll, hp⟩ := choose_ltD hch
    subst hll
    refine ⟨some a, cap, l, h1, rfl, fun i hi => ?_⟩
    obtain ⟨d, hd1, hd2, hd3⟩ := hp i hi
    exact ⟨a, d, rfl, hd1, hd2, hd3⟩
set_option maxRecDepth 100000 in
theorem dcl_of {fuel : Nat} {cs : List Value} {x : DataW H × List MemPlace} (h : DataW.trod enc Tryd.prog w base sp held fuel 54 cs = some x) :
    ∃ d : Dc, cs = d.cells ∧ DfsAt w d.A d.ds.length d.ds := by
  obtain ⟨ys, n, _, rfl, hlen, hyl, hf⟩ := DataW.trod_struct Tryd.underlying54 h
  rw [Tryd.cellsDgC] at hlen
  have f0 := hf 0 _ rfl
  have f1 := hf 1 _ rfl
  have f2 := hf 2 _ rfl
  have f3 := hf 3 _ rfl
  have f4 := hf 4 _ rfl
  have f5 := hf 5 _ rfl
  have f6 := hf 6 _ rfl
  match cs, hlen with
  | [c0, c1, c2, c3, c4, c5, c6, c7, c8, c9, c10, c11, c12], _ =>
    simp only [List.getElem_toArray, List.getElem_cons_zero, List.getElem_cons_succ, Tryd.cellsDgS, Tryd.cellsDgN, Tryd.cellsDgB, Tryd.cellsDgE, Tryd.cellsDgI, Tryd.cellsDgL, List.drop_zero, List.take_succ_cons, List.take_zero, List.drop_succ_cons] at f0 f1 f2 f3 f4 f5 f6
    match ys, hyl with
    | [y0, y1, y2, y3, y4, y5, y6], _ =>
      obtain ⟨n0, h0, _⟩ := DataW.trod_int Tryd.underlying3 f0
      obtain ⟨s1, h1, _⟩ := DataW.trod_string Tryd.underlying9 f1
      obtain ⟨b2, h2, _⟩ := DataW.trod_bool Tryd.underlying4 f2
      obtain ⟨e, h3, h4, h5, h6, h7, h8⟩ := entD_of f3
      obtain ⟨A, cp, ds, h9, hd⟩ := defs_of f4
      obtain ⟨p, q, h10, h11⟩ := ids_of f5
      obtain ⟨s12, h12, _⟩ := DataW.trod_string Tryd.underlying9 f6
      simp only [List.cons.injEq, and_true] at h0 h1 h2 h12
      subst h0 h1 h2 h3 h4 h5 h6 h7 h8 h9 h10 h11 h12
      exact ⟨⟨n0, s1, b2, e, ds, A, cp, p, q, s12⟩, rfl, hd⟩
set_option maxRecDepth 100000 in
/-- A parameter of declarations. -/
theorem dcs_arg {r : Reach} {b0 : Nat} {v : Value} {d : DataW H} {ps : List MemPlace}
    (hval : Value.okWide Tryd.prog w r b0 22 v) (hd : DataW.Trod enc Tryd.prog w base sp held 22 v d ps) :
    ∃ (A : Option Addr) (n cp : Nat) (l : List Dc), v = .slice A n cp ∧ DcsAt w A n l := by
  obtain ⟨A, n, cp, rfl⟩ := Go.WideShapes.okWide_slice Tryd.underlying22 hval
  obtain ⟨fuel, hf⟩ := hd
  rcases open_slice Tryd.underlying22 hf with ⟨h1, h2⟩ | ⟨a, len, cap, m, n', D, Pl, h1, _, hl, hm, hmm, h2, hx⟩
  · simp [Value.cells] at h1
    obtain ⟨rfl, rfl, rfl⟩ := h1
    exact ⟨none, 0, 0, [], rfl, rfl, fun i hi => absurd hi (Nat.not_lt_zero _)⟩
  · simp [Value.cells] at h1
    obtain ⟨rfl, rfl, rfl⟩ := h1
    have hle : n ≤ m := by rw [hmm]; split <;> omega
    have hch : ∀ i, i < n → ∃ d : Dc, DcCell w (a.add (i * 13)) d ∧ DfsAt w d.A d.ds.length d.ds := fun i hi => by
      obtain ⟨cs', hc, ht⟩ := hx i (by omega)
      rw [Tryd.cellsDgC] at hc
      obtain ⟨_, hcl, hat⟩ := World.cells?_some hc
      obtain ⟨d, rfl, hw⟩ := dcl_of ht
      have g0' : w.cell? (a.add (i * 13)) = some (.int .i64 d.ki) := by simpa [Addr.add, Dc.cells] using hat 0 (by decide)
      exact ⟨d, ⟨World.block_lt_of_cell? _ _ g0', g0', by simpa [Addr.add, Dc.cells] using hat 1 (by decide), by simpa [Addr.add, Dc.cells] using hat 2 (by decide), by simpa [Addr.add, Dc.cells] using hat 3 (by decide), by simpa [Addr.add, Dc.cells] using hat 4 (by decide), by simpa [Addr.add, Dc.cells] using hat 5 (by decide), by simpa [Addr.add, Dc.cells] using hat 6 (by decide), by simpa [Addr.add, Dc.cells] using hat 7 (by decide), by simpa [Addr.add, Dc.cells] using hat 8 (by decide), by simpa [Addr.add, Dc.cells] using hat 9 (by decide), by simpa [Addr.add, Dc.cells] using hat 10 (by decide), by simpa [Addr.add, Dc.cells] using hat 11 (by decide), by simpa [Addr.add, Dc.cells] using hat 12 (by decide)⟩, hw⟩
    obtain ⟨l, hll, hp⟩ := choose_ltD hch
    refine ⟨some a, n, cp, l, rfl, hll, fun i hi => ?_⟩
    obtain ⟨x, hx1, hx2, hx3⟩ := hp i hi
    exact ⟨a, x, rfl, hx1, hx2, hx3⟩
end
end Go.Proofs.YtapjmfgpdkghlaaDoor
