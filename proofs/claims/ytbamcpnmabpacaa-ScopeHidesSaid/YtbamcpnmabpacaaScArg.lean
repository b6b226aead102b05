/- A parameter of rows of what is bound, as the walks read it; the reach bounds its rows. -/
import Derived.Test.YtbamcpnmabpacaaScM
import Derived.Deep.Slices
import Derived.Deep.Strs
import Derived.WideShapes
import Derived.SizedLaws
import Derived.OpenShut
import Derived.Handed
namespace Go.Proofs.Ytbamcpnmabpacaa
open Go.RowKit Go.ChangeShapes Go.Deep
set_option linter.unusedVariables false
set_option linter.unusedSimpArgs false
theorem Try.cellsBd : Try.prog.cellsOf 38 = 2 := by kernel_rfl
theorem Try.cellsBdS : Try.prog.cellsOf 9 = 1 := by kernel_rfl
theorem Try.cellsBdR : Try.prog.cellsOf 34 = 1 := by kernel_rfl
theorem Try.bytesBd : Try.prog.bytesOf 38 = 32 := by kernel_rfl
theorem weightsAll_memS {H : Type} {P : Program} {e : TypeId} {d : DataW H} {n : Nat} (hn : n ∈ d.weights P e) : ∀ {l : List (DataW H)}, d ∈ l → n ∈ DataW.weightsAll P e l
  | [], h => by cases h
  | x :: l, h => by
    unfold DataW.weightsAll
    rcases List.mem_cons.1 h with rfl | h
    · exact List.mem_append_left _ hn
    · exact List.mem_append_right _ (weightsAll_memS hn h)
theorem choose_ltS {α : Type} {n : Nat} {P : Nat → α → Prop} (h : ∀ i, i < n → ∃ x, P i x) : ∃ l : List α, l.length = n ∧ ∀ i, i < n → ∃ x, l[i]? = some x ∧ P i x := by
  induction n with
  | zero => exact ⟨[], rfl, fun i hi => by omega⟩
  | succ n ih =>
    obtain ⟨l, hl, hp⟩ := ih (fun i hi => h i (by omega))
    obtain ⟨x, hx⟩ := h n (by omega)
    refine ⟨l ++ [x], by simp [hl], fun i hi => ?_⟩
    rcases Nat.lt_or_eq_of_le (Nat.lt_succ_iff.1 hi) with h1 | rfl
    · obtain ⟨y, hy, hpy⟩ := hp i h1
      exact ⟨y, by rw [List.getElem?_append_left (by omega)]; exact hy, hpy⟩
    · exact ⟨x, by rw [List.getElem?_append_right (by omega)]; simp [hl], hx⟩
section
variable {H : Type} {enc : TypeId × Value → H} {w : World} {base : Nat} {sp : Nat → Bool} {held : Bool}
set_option maxRecDepth 100000 in
theorem bd_of {fuel : Nat} {cs : List Value} {x : DataW H × List MemPlace} (h : DataW.trod enc Try.prog w base sp held fuel 38 cs = some x) :
    ∃ e : Bd, cs = [.string e.p, .string e.s] := by
  obtain ⟨ys, n, _, rfl, hlen, hyl, hf⟩ := DataW.trod_struct Try.underlying38 h
  rw [Try.cellsBd] at hlen
  have f0 := hf 0 _ rfl
  have f1 := hf 1 _ rfl
  match cs, hlen with
  | [c0, c1], _ =>
    simp only [List.getElem_toArray, List.getElem_cons_zero, List.getElem_cons_succ, Try.cellsBdS, List.drop_zero, List.take_succ_cons, List.take_zero, List.drop_succ_cons] at f0 f1
    match ys, hyl with
    | [y0, y1], _ =>
      obtain ⟨s0, h0, g0, _⟩ := DataW.trod_string Try.underlying9 f0
      obtain ⟨s1, h1, g1, _⟩ := DataW.trod_string Try.underlying9 f1
      simp only [List.cons.injEq, and_true] at h0 h1
      subst h0 h1
      exact ⟨⟨s0, s1⟩, rfl⟩
set_option maxRecDepth 100000 in
theorem bds_of {fuel : Nat} {c : Value} {x : DataW H × List MemPlace} (h : DataW.trod enc Try.prog w base sp held fuel 34 [c] = some x) (hz : ∀ n ∈ x.1.weights Try.prog 34, n ≤ reachBytes) :
    ∃ (A : Option Addr) (cp : Nat) (l : List Bd), c = .slice A l.length cp ∧ BdsAt w A l.length l ∧ (A = none → cp = 0) ∧ l.length ≤ 9000000000000000 := by
  rcases open_slice Try.underlying34 h with ⟨h1, h2⟩ | ⟨a, n, cap, m, n', D, Pl, h1, _, hl, hm, hmm, h2, hx⟩
  · simp only [List.cons.injEq, and_true] at h1
    exact ⟨none, 0, [], h1, ⟨rfl, fun i hi => by simp at hi⟩, fun _ => rfl, Nat.zero_le _⟩
  · simp only [List.cons.injEq, and_true] at h1
    have hle : n ≤ m := by rw [hmm]; split <;> omega
    have hch : ∀ i, i < n → ∃ e : Bd, BdAt w (a.add (i * 2)) e := fun i hi => by
      obtain ⟨cs', hc, ht⟩ := hx i (by omega)
      rw [Try.cellsBd] at hc
      obtain ⟨_, hcl, hat⟩ := World.cells?_some hc
      obtain ⟨e, rfl⟩ := bd_of ht
      have g0 := hat 0 (by decide)
      have g1 := hat 1 (by decide)
      have g0' : w.cell? (a.add (i * 2)) = some (.string e.p) := by simpa [Addr.add] using g0
      exact ⟨e, World.block_lt_of_cell? _ _ g0', g0', by simpa [Addr.add] using g1⟩
    obtain ⟨l, hll, hp⟩ := choose_ltS hch
    have hw := hz ((n + (m - n)) * 32) (by
      rw [h2]
      simp only [DataW.weights, Try.underlying34, Try.bytesBd]
      simp)
    unfold reachBytes at hw
    subst hll
    refine ⟨some a, cap, l, h1, ⟨rfl, fun i hi => ?_⟩, fun e => (by cases e), by omega⟩
    obtain ⟨x, hx1, hx2⟩ := hp i hi
    exact ⟨a, x, rfl, hx1, hx2⟩
set_option maxRecDepth 100000 in
/-- A parameter of rows. -/
theorem rows34_of {r : Reach} {b0 : Nat} {v : Value} {d : DataW H} {ps : List MemPlace}
    (hval : Value.okWide Try.prog w r b0 22 v) (hd : DataW.Trod enc Try.prog w base sp held 22 v d ps) (hz : ∀ n ∈ d.weights Try.prog 22, n ≤ reachBytes) :
    ∃ (A : Option Addr) (n cp : Nat) (ls : List (List Bd)), v = .slice A n cp ∧ RowsAt w A n ls ∧ n ≤ cp ∧ n ≤ 9223372036854775807 ∧ ∀ f ∈ ls, f.length ≤ 9000000000000000 := by
  obtain ⟨A, n, cp, rfl⟩ := Go.WideShapes.okWide_slice Try.underlying22 hval
  obtain ⟨fuel, hf⟩ := hd
  rcases open_slice Try.underlying22 hf with ⟨h1, h2⟩ | ⟨a, len, cap, m, n', D, Pl, h1, _, hl, hm, hmm, h2, hx⟩
  · simp [Value.cells] at h1
    obtain ⟨rfl, rfl, rfl⟩ := h1
    exact ⟨none, 0, 0, [], rfl, ⟨rfl, fun i hi => by omega⟩, Nat.le_refl _, by omega, by simp⟩
  · simp [Value.cells] at h1
    obtain ⟨rfl, rfl, rfl⟩ := h1
    have hle : n ≤ m := by rw [hmm]; split <;> omega
    simp only [Prod.mk.injEq] at h2
    have hch : ∀ i, i < n → ∃ f : List Bd, (a.block < w.heap.size ∧ ∃ B c, w.cell? (a.add i) = some (.slice B f.length c) ∧ BdsAt w B f.length f ∧ (B = none → c = 0)) ∧ f.length ≤ 9000000000000000 := fun i hi => by
      obtain ⟨cs', hc, ht⟩ := hx i (by omega)
      rw [Try.cellsBdR, Nat.mul_one] at hc
      obtain ⟨_, hcl, hat⟩ := World.cells?_some hc
      have g0 := hat 0 (by decide)
      match cs', hcl with
      | [c0], _ =>
        obtain ⟨B, c, f, rfl, hb, hn, hlen⟩ := bds_of ht (fun k hk => hz k (by
          rw [h2.1]
          simp only [DataW.weights, Try.underlying22]
          exact List.mem_cons_of_mem _ (List.mem_append_left _ (weightsAll_memS hk (List.mem_map.2 ⟨i, List.mem_range.2 hi, rfl⟩)))))
        have g0' : w.cell? (a.add i) = some (.slice B f.length c) := by simpa [Addr.add] using g0
        exact ⟨f, ⟨by have := World.block_lt_of_cell? _ _ g0'; rwa [addBlockS] at this, B, c, g0', hb, hn⟩, hlen⟩
    obtain ⟨ls, hll, hp⟩ := choose_ltS hch
    refine ⟨some a, n, cp, ls, rfl, ⟨hll, fun i hi => ?_⟩, hl, Nat.le_trans hl (by simpa [maxLen] using hm), fun f hf => ?_⟩
    · obtain ⟨f, hf1, ⟨hb, B, c, h3, h4, h5⟩, _⟩ := hp i hi
      exact ⟨a, f, B, c, rfl, hf1, hb, h3, h4, h5⟩
    · obtain ⟨i, hi, rfl⟩ := List.getElem_of_mem hf
      obtain ⟨f', hf1, _, h2⟩ := hp i (by omega)
      rw [List.getElem?_eq_getElem hi] at hf1
      injection hf1 with hf1
      subst hf1
      exact h2
end
theorem handedSized {H : Type} {enc : TypeId × Value → H} {a : Assume} {C : Checked} {os : Os} {f : FuncId} {fn : Func} {s : ChangeSpec} {conds : List PathCond} {apart fresh handsOn again : Bool}
    (own : ownKnob C.prog.godebug = none) (started : os.Started) (noInit : C.prog.inits.idxOf? f = none) (hfn : C.prog.funcs[f]? = some fn)
    (witness : ∃ (w : World) (tape : Tape) (i : Input), w.os = os ∧ (w.forCall tape i).Shaped C.prog ∧ i.vars = [] ∧ Input.okWide C.prog (w.forCall tape i) .any w.heap.size f i ∧
      s.pre6 enc C.prog fn conds apart (w.forCall tape i).memory i.args ∧ a.holds C.prog (lone (Frame.enter C.prog f i.args .normal) [] (w.forCall tape i)))
    (contract : ∀ (W : World) (base : Nat) (args : Array Value) (ds gs : List (DataW H)) (before : List MemPlace),
      (∀ (j : Nat) t v, fn.params[j]? = some t → args[j]? = some v → Value.okWide C.prog W .any base t v) →
      DataW.Whole enc C.prog fn.params.toList s.vars apart W args.toList ds gs before →
      conds.all (PathCond.test C.prog ⟨fn.params.toList, ds, s.plain.varTypes C.prog, gs⟩) = true →
      (DataW.weightsEach C.prog (fn.params.toList ++ s.plain.varTypes C.prog) (ds ++ gs)).all (· ≤ reachBytes) = true →
      a.holds C.prog (lone (Frame.enter C.prog f args .normal) [] W) →
      Calls C.prog f args W fun e W' => ∃ v, e = .returned v ∧ s.post enc C.prog fn apart fresh handsOn again W args v W') :
    ReturnsInHanded a C os f .any (s.pre6 enc C.prog fn conds apart) (s.post enc C.prog fn apart fresh handsOn again) := by
  refine returnsInHanded_of_calls own started noInit witness ?_
  intro w tape i _ _ _ hok hpre hholds
  obtain ⟨_, _, _, fn', hfn', _, _, _, _, hval⟩ := hok
  have e : fn' = fn := Option.some.inj (hfn'.symm.trans hfn)
  subst e
  obtain ⟨⟨ds, gs, before, hw, hc⟩, hz⟩ := hpre
  have hw' := DataW.Whole.of_heap (w' := w.forCall tape i) (by rfl) hw
  refine (contract (w.forCall tape i) w.heap.size i.args ds gs before hval hw' hc (hz.weights hw) hholds).mono fun e W' ⟨v, he, hp⟩ => ?_
  subst he
  exact ChangeSpec.post_blind hp
end Go.Proofs.Ytbamcpnmabpacaa
