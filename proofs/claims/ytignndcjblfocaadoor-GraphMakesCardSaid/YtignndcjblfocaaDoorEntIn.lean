/- A parameter of entities, as the walks read it; the reach bounds its texts. -/
import Derived.Test.YtignndcjblfocaaDoorGraphIn
import Derived.Test.YtignndcjblfocaaDoorEntRef
namespace Go.Proofs.YtignndcjblfocaaDoor
set_option linter.unusedVariables false
set_option linter.unusedSimpArgs false
open Go.RowKit Go.ChangeShapes Go.Deep
theorem Tryd.cellsEnt : Tryd.prog.cellsOf 50 = 6 := by kernel_rfl
theorem Tryd.cellsEntS : Tryd.prog.cellsOf 9 = 1 := by kernel_rfl
theorem Tryd.cellsEntB : Tryd.prog.cellsOf 4 = 1 := by kernel_rfl
theorem Tryd.cellsEntI : Tryd.prog.cellsOf 48 = 2 := by kernel_rfl
section
variable {H : Type} {enc : TypeId × Value → H} {w : World} {base : Nat} {sp : Nat → Bool} {held : Bool}
theorem eid_of {fuel : Nat} {c0 c1 : Value} {x : DataW H × List MemPlace} (h : DataW.trod enc Tryd.prog w base sp held fuel 48 [c0, c1] = some x) :
    ∃ s l : ByteArray, c0 = .string s ∧ c1 = .string l ∧ s.size ∈ x.1.weights Tryd.prog 48 ∧ l.size ∈ x.1.weights Tryd.prog 48 := by
  obtain ⟨ys, n, _, rfl, _, hyl, hf⟩ := DataW.trod_struct Tryd.underlying48 h
  have f0 := hf 0 _ rfl
  have f1 := hf 1 _ rfl
  simp only [List.getElem_toArray, List.getElem_cons_zero, List.getElem_cons_succ, Tryd.cellsEntS, List.drop_zero, List.take_succ_cons, List.take_zero, List.drop_succ_cons] at f0 f1
  match ys, hyl with
  | [y0, y1], _ =>
    obtain ⟨s, h1, h2, _⟩ := DataW.trod_string Tryd.underlying9 f0
    obtain ⟨l, h3, h4, _⟩ := DataW.trod_string Tryd.underlying9 f1
    simp only [List.cons.injEq, and_true] at h1 h3
    subst h2 h4
    exact ⟨s, l, h1, h3, by simp [DataW.weights, Tryd.underlying48, DataW.weightsEach], by simp [DataW.weights, Tryd.underlying48, DataW.weightsEach]⟩
set_option maxRecDepth 100000 in
theorem ent_of {fuel : Nat} {cs : List Value} {x : DataW H × List MemPlace} (h : DataW.trod enc Tryd.prog w base sp held fuel 50 cs = some x) :
    ∃ e : Ent, cs = e.cells ∧ (∀ n ∈ [e.na.size, e.tx.size, e.pu.size, e.sy.size, e.no.size], n ∈ x.1.weights Tryd.prog 50) := by
  obtain ⟨ys, n, _, rfl, hlen, hyl, hf⟩ := DataW.trod_struct Tryd.underlying50 h
  rw [Tryd.cellsEnt] at hlen
  have f0 := hf 0 _ rfl
  have f1 := hf 1 _ rfl
  have f2 := hf 2 _ rfl
  have f3 := hf 3 _ rfl
  have f4 := hf 4 _ rfl
  match cs, hlen with
  | [c0, c1, c2, c3, c4, c5], _ =>
    simp only [List.getElem_toArray, List.getElem_cons_zero, List.getElem_cons_succ, Tryd.cellsEntS, Tryd.cellsEntB, Tryd.cellsEntI, List.drop_zero, List.take_succ_cons, List.take_zero, List.drop_succ_cons] at f0 f1 f2 f3 f4
    match ys, hyl with
    | [y0, y1, y2, y3, y4], _ =>
      obtain ⟨s0, h0, g0, _⟩ := DataW.trod_string Tryd.underlying9 f0
      obtain ⟨s1, h1, g1, _⟩ := DataW.trod_string Tryd.underlying9 f1
      obtain ⟨b2, h2, g2⟩ := DataW.trod_bool Tryd.underlying4 f2
      obtain ⟨s3, s4, rfl, rfl, g3, g4⟩ := eid_of f3
      obtain ⟨s5, h5, g5, _⟩ := DataW.trod_string Tryd.underlying9 f4
      simp only [List.cons.injEq, and_true] at h0 h1 h2 h5
      subst h0 h1 h2 h5 g0 g1 g2 g5
      refine ⟨⟨s0, s1, b2, s3, s4, s5⟩, rfl, fun n hn => ?_⟩
      simp [DataW.weights, Tryd.underlying50, DataW.weightsEach] at hn ⊢
      rcases hn with rfl | rfl | rfl | rfl | rfl
      · exact .inl rfl
      · exact .inr (.inl rfl)
      · exact .inr (.inr (.inl g3))
      · exact .inr (.inr (.inl g4))
      · exact .inr (.inr (.inr rfl))
set_option maxRecDepth 100000 in
/-- A parameter of entities. -/
theorem ents_of {r : Reach} {b0 : Nat} {v : Value} {d : DataW H} {ps : List MemPlace}
    (hval : Value.okWide Tryd.prog w r b0 22 v) (hd : DataW.Trod enc Tryd.prog w base sp held 22 v d ps) (hz : ∀ n ∈ d.weights Tryd.prog 22, n ≤ reachBytes) :
    ∃ (A : Option Addr) (n cp : Nat) (l : List Ent), v = .slice A n cp ∧ EntsAt w A n l ∧ n ≤ maxLen ∧ (∀ e ∈ l, e.na.size ≤ reachBytes ∧ e.tx.size ≤ reachBytes) := by
  obtain ⟨A, n, cp, rfl⟩ := Go.WideShapes.okWide_slice Tryd.underlying22 hval
  obtain ⟨fuel, hf⟩ := hd
  rcases open_slice Tryd.underlying22 hf with ⟨h1, h2⟩ | ⟨a, len, cap, m, n', D, Pl, h1, _, hl, hm, hmm, h2, hx⟩
  · simp [Value.cells] at h1
    obtain ⟨rfl, rfl, rfl⟩ := h1
    exact ⟨none, 0, 0, [], rfl, ⟨rfl, fun i hi => by omega⟩, Nat.zero_le _, by simp⟩
  · simp [Value.cells] at h1
    obtain ⟨rfl, rfl, rfl⟩ := h1
    have hle : n ≤ m := by rw [hmm]; split <;> omega
    simp only [Prod.mk.injEq] at h2
    have hch : ∀ i, i < n → ∃ e : Ent, EntAt w (a.add (i * 6)) e ∧ (e.na.size ≤ reachBytes ∧ e.tx.size ≤ reachBytes) := fun i hi => by
      obtain ⟨cs', hc, ht⟩ := hx i (by omega)
      rw [Tryd.cellsEnt] at hc
      obtain ⟨_, hcl, hat⟩ := World.cells?_some hc
      obtain ⟨e, rfl, hb⟩ := ent_of ht
      have g0 := hat 0 (by decide)
      have g1 := hat 1 (by decide)
      have g2 := hat 2 (by decide)
      have g3 := hat 3 (by decide)
      have g4 := hat 4 (by decide)
      have g5 := hat 5 (by decide)
      have hw : ∀ k ∈ [e.na.size, e.tx.size, e.pu.size, e.sy.size, e.no.size], k ≤ reachBytes := fun k hk => hz k (by
        rw [h2.1]
        simp only [DataW.weights, Tryd.underlying22]
        exact List.mem_cons_of_mem _ (List.mem_append_left _ (weightsAll_mem (hb k hk) (List.mem_map.2 ⟨i, List.mem_range.2 hi, rfl⟩))))
      exact ⟨e, ⟨cell_blockG (by simpa [Addr.add, Ent.cells] using g0), by simpa [Addr.add, Ent.cells] using g0, by simpa [Addr.add, Ent.cells] using g1, by simpa [Addr.add, Ent.cells] using g2, by simpa [Addr.add, Ent.cells] using g3, by simpa [Addr.add, Ent.cells] using g4, by simpa [Addr.add, Ent.cells] using g5⟩, hw _ (by simp), hw _ (by simp)⟩
    obtain ⟨F, hF⟩ := choose_lt hch
    refine ⟨some a, n, cp, (List.range n).map F, rfl, ⟨by simp, fun i hi => ⟨a, F i, rfl, by simp [hi], (hF i hi).1⟩⟩, Nat.le_trans hl hm, fun e he => ?_⟩
    obtain ⟨i, hi, rfl⟩ := List.mem_map.1 he
    exact (hF i (List.mem_range.1 hi)).2
end
end Go.Proofs.YtignndcjblfocaaDoor
