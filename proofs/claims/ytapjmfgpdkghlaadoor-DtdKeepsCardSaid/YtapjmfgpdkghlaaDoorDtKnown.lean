/- The entities that are always known, for a seat without the Chars texts. Printed by gen-dtknown.py. -/
import Derived.Test.YtapjmfgpdkghlaaDoorDtMake
import Derived.Test.YtapjmfgpdkghlaaDoorStrEq
import Derived.Test.YtapjmfgpdkghlaaDoorRows
import Derived.Lib.LaidTab
import Derived.OpenShut
import Derived.Deep.Strs
import Derived.ChangeArms
import Derived.ChangeSame
namespace Go.Proofs.YtapjmfgpdkghlaaDoor
open Go.RowKit Go.Maps Go.ChangeShapes
set_option linter.unusedVariables false
set_option linter.unusedSimpArgs false
def RetI (n : Int) (w : World) (e : Ending) (w' : World) : Prop := e = .returned (.int .i64 n) ∧ w = w'
theorem Tryd.cellsInt : Tryd.prog.cellsOf 3 = 1 := by kernel_rfl
def knownCells : List Value := [.string ⟨#[108, 116]⟩, .int .i64 60, .string ⟨#[103, 116]⟩, .int .i64 62, .string ⟨#[97, 109, 112]⟩, .int .i64 38, .string ⟨#[97, 112, 111, 115]⟩, .int .i64 39, .string ⟨#[113, 117, 111, 116]⟩, .int .i64 34]
structure KnownAt (w : World) : Prop where
  cell : ∀ i v, knownCells[i]? = some v → w.cell? ⟨0, i, none⟩ = some v
  size : 0 < w.heap.size
theorem KnownAt.below {w w' : World} (h : KnownAt w) {B : Nat} (hb : Below B w w') (hB : 0 < B) : KnownAt w' :=
  ⟨fun i v hv => (hb.cell (p := ⟨0, i, none⟩) hB).trans (h.cell i v hv), Nat.lt_of_lt_of_le h.size hb.size⟩
theorem KnownAt.later {w w' : World} (h : KnownAt w) (hb : Below w.heap.size w w') : KnownAt w' := h.below hb h.size
/-- The character of a name; 0: it is not known. -/
def knownN (s : ByteArray) : Int :=
  if s = ⟨#[108, 116]⟩ then 60 else if s = ⟨#[103, 116]⟩ then 62 else if s = ⟨#[97, 109, 112]⟩ then 38 else if s = ⟨#[97, 112, 111, 115]⟩ then 39 else if s = ⟨#[113, 117, 111, 116]⟩ then 34 else 0
theorem knownN_pos (s : ByteArray) : knownN s = 0 ∨ 0 < knownN s := by
  unfold knownN
  repeat' split
  all_goals omega
def TellKnown (s : ByteArray) (w : World) (e : Ending) (w' : World) : Prop := e = .returned (.tuple #[.int .i64 (knownN s), .bool (decide (0 < knownN s))]) ∧ Below w.heap.size w w'
theorem tl_fact {s : ByteArray} {l : List UInt8} (h : ¬ s = ⟨l.toArray⟩) : (s.toList == l) = false := by
  have h2 := sL_no h
  have e : (⟨l.toArray⟩ : ByteArray).toList = l := by
    apply List.ext_getElem?
    intro i
    simp
  rwa [e] at h2
theorem tl_same {s : ByteArray} {l : List UInt8} (h : s = ⟨l.toArray⟩) : (s.toList == l) = true := by
  subst h
  have e : (⟨l.toArray⟩ : ByteArray).toList = l := by
    apply List.ext_getElem?
    intro i
    simp
  rw [e]; simp
inductive KnownOr (s : ByteArray) : Prop
  | k0 : (s.toList == [108, 116]) = true → knownN s = 60 → KnownOr s
  | k1 : (s.toList == [108, 116]) = false → (s.toList == [103, 116]) = true → knownN s = 62 → KnownOr s
  | k2 : (s.toList == [108, 116]) = false → (s.toList == [103, 116]) = false → (s.toList == [97, 109, 112]) = true → knownN s = 38 → KnownOr s
  | k3 : (s.toList == [108, 116]) = false → (s.toList == [103, 116]) = false → (s.toList == [97, 109, 112]) = false → (s.toList == [97, 112, 111, 115]) = true → knownN s = 39 → KnownOr s
  | k4 : (s.toList == [108, 116]) = false → (s.toList == [103, 116]) = false → (s.toList == [97, 109, 112]) = false → (s.toList == [97, 112, 111, 115]) = false → (s.toList == [113, 117, 111, 116]) = true → knownN s = 34 → KnownOr s
  | k5 : (s.toList == [108, 116]) = false → (s.toList == [103, 116]) = false → (s.toList == [97, 109, 112]) = false → (s.toList == [97, 112, 111, 115]) = false → (s.toList == [113, 117, 111, 116]) = false → knownN s = 0 → KnownOr s
theorem knownOr (s : ByteArray) : KnownOr s := by
  by_cases h0 : s = ⟨#[108, 116]⟩
  · exact .k0  (tl_same h0) (by unfold knownN; rw [if_pos h0])
  by_cases h1 : s = ⟨#[103, 116]⟩
  · exact .k1 (tl_fact h0) (tl_same h1) (by unfold knownN; rw [if_neg h0, if_pos h1])
  by_cases h2 : s = ⟨#[97, 109, 112]⟩
  · exact .k2 (tl_fact h0) (tl_fact h1) (tl_same h2) (by unfold knownN; rw [if_neg h0, if_neg h1, if_pos h2])
  by_cases h3 : s = ⟨#[97, 112, 111, 115]⟩
  · exact .k3 (tl_fact h0) (tl_fact h1) (tl_fact h2) (tl_same h3) (by unfold knownN; rw [if_neg h0, if_neg h1, if_neg h2, if_pos h3])
  by_cases h4 : s = ⟨#[113, 117, 111, 116]⟩
  · exact .k4 (tl_fact h0) (tl_fact h1) (tl_fact h2) (tl_fact h3) (tl_same h4) (by unfold knownN; rw [if_neg h0, if_neg h1, if_neg h2, if_neg h3, if_pos h4])
  exact .k5 (tl_fact h0) (tl_fact h1) (tl_fact h2) (tl_fact h3) (tl_fact h4) (by unfold knownN; rw [if_neg h0, if_neg h1, if_neg h2, if_neg h3, if_neg h4])
theorem knownIdx0 (w : World) : (Instr.index 105 (.agg #[.string ⟨#[108, 116]⟩, .int .i64 60, .string ⟨#[103, 116]⟩, .int .i64 62, .string ⟨#[97, 109, 112]⟩, .int .i64 38, .string ⟨#[97, 112, 111, 115]⟩, .int .i64 39, .string ⟨#[113, 117, 111, 116]⟩, .int .i64 34]) (.int .i64 0)).run Tryd.prog w = .ok (.agg #[.string ⟨#[108, 116]⟩, .int .i64 60]) w := by kernel_rfl
theorem knownIdx1 (w : World) : (Instr.index 105 (.agg #[.string ⟨#[108, 116]⟩, .int .i64 60, .string ⟨#[103, 116]⟩, .int .i64 62, .string ⟨#[97, 109, 112]⟩, .int .i64 38, .string ⟨#[97, 112, 111, 115]⟩, .int .i64 39, .string ⟨#[113, 117, 111, 116]⟩, .int .i64 34]) (.int .i64 1)).run Tryd.prog w = .ok (.agg #[.string ⟨#[103, 116]⟩, .int .i64 62]) w := by kernel_rfl
theorem knownIdx2 (w : World) : (Instr.index 105 (.agg #[.string ⟨#[108, 116]⟩, .int .i64 60, .string ⟨#[103, 116]⟩, .int .i64 62, .string ⟨#[97, 109, 112]⟩, .int .i64 38, .string ⟨#[97, 112, 111, 115]⟩, .int .i64 39, .string ⟨#[113, 117, 111, 116]⟩, .int .i64 34]) (.int .i64 2)).run Tryd.prog w = .ok (.agg #[.string ⟨#[97, 109, 112]⟩, .int .i64 38]) w := by kernel_rfl
theorem knownIdx3 (w : World) : (Instr.index 105 (.agg #[.string ⟨#[108, 116]⟩, .int .i64 60, .string ⟨#[103, 116]⟩, .int .i64 62, .string ⟨#[97, 109, 112]⟩, .int .i64 38, .string ⟨#[97, 112, 111, 115]⟩, .int .i64 39, .string ⟨#[113, 117, 111, 116]⟩, .int .i64 34]) (.int .i64 3)).run Tryd.prog w = .ok (.agg #[.string ⟨#[97, 112, 111, 115]⟩, .int .i64 39]) w := by kernel_rfl
theorem knownIdx4 (w : World) : (Instr.index 105 (.agg #[.string ⟨#[108, 116]⟩, .int .i64 60, .string ⟨#[103, 116]⟩, .int .i64 62, .string ⟨#[97, 109, 112]⟩, .int .i64 38, .string ⟨#[97, 112, 111, 115]⟩, .int .i64 39, .string ⟨#[113, 117, 111, 116]⟩, .int .i64 34]) (.int .i64 4)).run Tryd.prog w = .ok (.agg #[.string ⟨#[113, 117, 111, 116]⟩, .int .i64 34]) w := by kernel_rfl
set_option maxHeartbeats 4000000 in
theorem known_any (s : ByteArray) (w : World) (hk : KnownAt w) : Calls Tryd.prog 39 #[.string s] w (TellKnown s w) := by
  have c0 := hk.cell 0 _ rfl
  have c1 := hk.cell 1 _ rfl
  have c2 := hk.cell 2 _ rfl
  have c3 := hk.cell 3 _ rfl
  have c4 := hk.cell 4 _ rfl
  have c5 := hk.cell 5 _ rfl
  have c6 := hk.cell 6 _ rfl
  have c7 := hk.cell 7 _ rfl
  have c8 := hk.cell 8 _ rfl
  have c9 := hk.cell 9 _ rfl
  have hs := hk.size
  clear hk
  have i0 := knownIdx0
  have i1 := knownIdx1
  have i2 := knownIdx2
  have i3 := knownIdx3
  have i4 := knownIdx4
  cases knownOr s with
  | k0 h0 hn =>
    have f0 := (BEq.comm (a := [108, 116]) (b := s.toList)).trans h0
    clear h0
    have HN := Lib.hid hn
    clear hn
    go_enter Tryd.func39, Tryd.ntmps39
    go_wp2
    refine wp_loop_rounds 1 ?_
    rw [rounds_succ]; go_wp2
    go_ret2
    exact ⟨by rw [HN.out]; rfl, ((Below.refl _ _).alloc (by first | (simp; done) | (simp; omega)) _)⟩
  | k1 h0 h1 hn =>
    have f0 := (BEq.comm (a := [108, 116]) (b := s.toList)).trans h0
    have f1 := (BEq.comm (a := [103, 116]) (b := s.toList)).trans h1
    clear h0 h1
    have HN := Lib.hid hn
    clear hn
    go_enter Tryd.func39, Tryd.ntmps39
    go_wp2
    refine wp_loop_rounds 2 ?_
    rw [rounds_succ]; go_wp2
    rw [rounds_succ]; go_wp2
    go_ret2
    exact ⟨by rw [HN.out]; rfl, (((Below.refl _ _).alloc (by first | (simp; done) | (simp; omega)) _).alloc (by first | (simp; done) | (simp; omega)) _)⟩
  | k2 h0 h1 h2 hn =>
    have f0 := (BEq.comm (a := [108, 116]) (b := s.toList)).trans h0
    have f1 := (BEq.comm (a := [103, 116]) (b := s.toList)).trans h1
    have f2 := (BEq.comm (a := [97, 109, 112]) (b := s.toList)).trans h2
    clear h0 h1 h2
    have HN := Lib.hid hn
    clear hn
    go_enter Tryd.func39, Tryd.ntmps39
    go_wp2
    refine wp_loop_rounds 3 ?_
    rw [rounds_succ]; go_wp2
    rw [rounds_succ]; go_wp2
    rw [rounds_succ]; go_wp2
    go_ret2
    exact ⟨by rw [HN.out]; rfl, ((((Below.refl _ _).alloc (by first | (simp; done) | (simp; omega)) _).alloc (by first | (simp; done) | (simp; omega)) _).alloc (by first | (simp; done) | (simp; omega)) _)⟩
  | k3 h0 h1 h2 h3 hn =>
    have f0 := (BEq.comm (a := [108, 116]) (b := s.toList)).trans h0
    have f1 := (BEq.comm (a := [103, 116]) (b := s.toList)).trans h1
    have f2 := (BEq.comm (a := [97, 109, 112]) (b := s.toList)).trans h2
    have f3 := (BEq.comm (a := [97, 112, 111, 115]) (b := s.toList)).trans h3
    clear h0 h1 h2 h3
    have HN := Lib.hid hn
    clear hn
    go_enter Tryd.func39, Tryd.ntmps39
    go_wp2
    refine wp_loop_rounds 4 ?_
    rw [rounds_succ]; go_wp2
    rw [rounds_succ]; go_wp2
    rw [rounds_succ]; go_wp2
    rw [rounds_succ]; go_wp2
    go_ret2
    exact ⟨by rw [HN.out]; rfl, (((((Below.refl _ _).alloc (by first | (simp; done) | (simp; omega)) _).alloc (by first | (simp; done) | (simp; omega)) _).alloc (by first | (simp; done) | (simp; omega)) _).alloc (by first | (simp; done) | (simp; omega)) _)⟩
  | k4 h0 h1 h2 h3 h4 hn =>
    have f0 := (BEq.comm (a := [108, 116]) (b := s.toList)).trans h0
    have f1 := (BEq.comm (a := [103, 116]) (b := s.toList)).trans h1
    have f2 := (BEq.comm (a := [97, 109, 112]) (b := s.toList)).trans h2
    have f3 := (BEq.comm (a := [97, 112, 111, 115]) (b := s.toList)).trans h3
    have f4 := (BEq.comm (a := [113, 117, 111, 116]) (b := s.toList)).trans h4
    clear h0 h1 h2 h3 h4
    have HN := Lib.hid hn
    clear hn
    go_enter Tryd.func39, Tryd.ntmps39
    go_wp2
    refine wp_loop_rounds 5 ?_
    rw [rounds_succ]; go_wp2
    rw [rounds_succ]; go_wp2
    rw [rounds_succ]; go_wp2
    rw [rounds_succ]; go_wp2
    rw [rounds_succ]; go_wp2
    go_ret2
    exact ⟨by rw [HN.out]; rfl, ((((((Below.refl _ _).alloc (by first | (simp; done) | (simp; omega)) _).alloc (by first | (simp; done) | (simp; omega)) _).alloc (by first | (simp; done) | (simp; omega)) _).alloc (by first | (simp; done) | (simp; omega)) _).alloc (by first | (simp; done) | (simp; omega)) _)⟩
  | k5 h0 h1 h2 h3 h4 hn =>
    have f0 := (BEq.comm (a := [108, 116]) (b := s.toList)).trans h0
    have f1 := (BEq.comm (a := [103, 116]) (b := s.toList)).trans h1
    have f2 := (BEq.comm (a := [97, 109, 112]) (b := s.toList)).trans h2
    have f3 := (BEq.comm (a := [97, 112, 111, 115]) (b := s.toList)).trans h3
    have f4 := (BEq.comm (a := [113, 117, 111, 116]) (b := s.toList)).trans h4
    clear h0 h1 h2 h3 h4
    have HN := Lib.hid hn
    clear hn
    go_enter Tryd.func39, Tryd.ntmps39
    go_wp2
    refine wp_loop_rounds 6 ?_
    rw [rounds_succ]; go_wp2
    rw [rounds_succ]; go_wp2
    rw [rounds_succ]; go_wp2
    rw [rounds_succ]; go_wp2
    rw [rounds_succ]; go_wp2
    rw [rounds_succ]; go_wp2
    go_ret2
    exact ⟨by rw [HN.out]; rfl, ((((((Below.refl _ _).alloc (by first | (simp; done) | (simp; omega)) _).alloc (by first | (simp; done) | (simp; omega)) _).alloc (by first | (simp; done) | (simp; omega)) _).alloc (by first | (simp; done) | (simp; omega)) _).alloc (by first | (simp; done) | (simp; omega)) _)⟩
set_option maxHeartbeats 2000000 in
theorem rknown_any (s : ByteArray) (w : World) : Calls Tryd.prog 35 #[.string s] w (RetI (knownN s) w) := by
  cases knownOr s with
  | k0 h0 hn =>
    rw [hn]
    go_enter Tryd.func35, Tryd.ntmps35
    go_wp2
    go_ret
    exact ⟨rfl, rfl⟩
  | k1 h0 h1 hn =>
    rw [hn]
    go_enter Tryd.func35, Tryd.ntmps35
    go_wp2
    go_ret
    exact ⟨rfl, rfl⟩
  | k2 h0 h1 h2 hn =>
    rw [hn]
    go_enter Tryd.func35, Tryd.ntmps35
    go_wp2
    go_ret
    exact ⟨rfl, rfl⟩
  | k3 h0 h1 h2 h3 hn =>
    rw [hn]
    go_enter Tryd.func35, Tryd.ntmps35
    go_wp2
    go_ret
    exact ⟨rfl, rfl⟩
  | k4 h0 h1 h2 h3 h4 hn =>
    rw [hn]
    go_enter Tryd.func35, Tryd.ntmps35
    go_wp2
    go_ret
    exact ⟨rfl, rfl⟩
  | k5 h0 h1 h2 h3 h4 hn =>
    rw [hn]
    go_enter Tryd.func35, Tryd.ntmps35
    go_wp2
    go_ret
    exact ⟨rfl, rfl⟩
/-- A listed variable, wherever it stands in the list, reads as it is listed. -/
theorem laidVars_mem {P : Program} {W : World} {laid : List (String × DataW Unit)} {ps : List MemPlace} (h : DataW.LaidVars P W laid ps) {x : String × DataW Unit} (hx : x ∈ laid) :
    ∃ g t cs fuel p, P.globalNamed x.1 = some g ∧ (P.globals[g]?).map (·.type) = some t ∧ W.var? P x.1 = some cs ∧ DataW.trod (fun _ => ()) P W 0 (fun _ => true) false fuel t cs.toList = some (x.2, p) := by
  induction laid generalizing ps with
  | nil => cases hx
  | cons y rest ih =>
    obtain ⟨g, t, cs, fuel, p, q, h1, h2, h3, h4, h5, _⟩ := h
    cases hx with
    | head => exact ⟨g, t, cs, fuel, p, h1, h2, h3, h4⟩
    | tail _ hx => exact ih h5 hx
theorem laid_mem {P : Program} {W : World} {laid : List (String × DataW Unit)} (h : laidMet P laid W) {name : String} {d : DataW Unit} (hx : (name, d) ∈ laid) {g : Nat} {t : TypeId}
    (hg : P.globalNamed name = some g) (ht : (P.globals[g]?).map (·.type) = some t) :
    ∃ cs fuel p, W.var? P name = some cs ∧ DataW.trod (fun _ => ()) P W 0 (fun _ => true) false fuel t cs.toList = some (d, p) := by
  obtain ⟨ps, h, _⟩ := h
  obtain ⟨g', t', cs, fuel, p, h1, h2, h3, h4⟩ := laidVars_mem h hx
  obtain rfl := Option.some.inj (hg.symm.trans h1)
  obtain rfl := Option.some.inj (ht.symm.trans h2)
  exact ⟨cs, fuel, p, h3, h4⟩
theorem Tryd.cellsOne : Tryd.prog.cellsOf 104 = 2 := by kernel_rfl
theorem Tryd.cellsStrK : Tryd.prog.cellsOf 9 = 1 := by kernel_rfl
theorem one_of {W : World} {fuel : Nat} {cs : List Value} {s : List UInt8} {b : Int} {p : List MemPlace}
    (h : DataW.trod (fun _ => ()) Tryd.prog W 0 (fun _ => true) false fuel 104 cs = some (.agg [.lit (.string s), .lit (.int .i64 b)], p)) :
    cs[0]? = some (.string ⟨s.toArray⟩) ∧ cs[1]? = some (.int .i64 b) := by
  obtain ⟨y0, y1, n, hx, _, h0, h1⟩ := trod_struct2 Tryd.underlying104 h
  obtain ⟨t0, c0, e0, _⟩ := DataW.trod_string Tryd.underlying9 h0
  obtain ⟨n1, c1, e1, _⟩ := DataW.trod_int Tryd.underlying3 h1
  subst e0 e1
  simp only [Prod.mk.injEq, DataW.agg.injEq, List.cons.injEq, DataW.lit.injEq, Lit.int.injEq, Lit.string.injEq, true_and, and_true] at hx
  obtain ⟨⟨rfl, rfl⟩, _⟩ := hx
  simp only [Tryd.cellsStrK, Tryd.cellsInt] at c0 c1
  have g0 := congrArg (fun l : List Value => l[0]?) c0
  have g1 := congrArg (fun l : List Value => l[0]?) c1
  simp only [List.getElem?_take, List.getElem?_drop] at g0 g1
  refine ⟨?_, by simpa using g1⟩
  have : (⟨t0.data.toList.toArray⟩ : ByteArray) = t0 := by cases t0; simp
  rw [this]
  simpa using g0
theorem known_of {W : World} {laid : List (String × DataW Unit)} (h : laidMet Tryd.prog laid W) (hx : ("narthex/cref.known", Rows.laid_narthex_cref_known) ∈ laid) : KnownAt W := by
  obtain ⟨cs, fuel, p, hv, hd⟩ := laid_mem h hx (g := 0) (t := 105) (by kernel_rfl) (by kernel_rfl)
  obtain ⟨xs, m, _, hq, hl, hn, hel⟩ := DataW.trod_array Tryd.underlying105 hd
  have hc : ∀ i, W.cell? ⟨0, i, none⟩ = cs[i]? := fun i => World.var?_cell (by kernel_rfl : Tryd.prog.globalNamed "narthex/cref.known" = some 0) hv i
  have h1 : xs.map (·.1) = [.agg [.lit (.string [108, 116]), .lit (.int .i64 60)], .agg [.lit (.string [103, 116]), .lit (.int .i64 62)], .agg [.lit (.string [97, 109, 112]), .lit (.int .i64 38)], .agg [.lit (.string [97, 112, 111, 115]), .lit (.int .i64 39)], .agg [.lit (.string [113, 117, 111, 116]), .lit (.int .i64 34)]] := by
    have := congrArg Prod.fst hq
    simpa [Rows.laid_narthex_cref_known] using this.symm
  have key : ∀ k s b, (xs.map (·.1))[k]? = some (DataW.agg [.lit (.string s), .lit (.int .i64 b)]) → k < 5 →
      cs[k * 2]? = some (.string ⟨s.toArray⟩) ∧ cs[k * 2 + 1]? = some (.int .i64 b) := by
    intro k s b hk hk5
    rw [List.getElem?_map] at hk
    obtain ⟨z, hz, hz1⟩ := Option.map_eq_some_iff.1 hk
    have hr := hel k hk5
    rw [hz, Tryd.cellsOne] at hr
    have hz2 : z = (DataW.agg [.lit (.string s), .lit (.int .i64 b)], z.2) := by rw [← hz1]
    rw [hz2] at hr
    obtain ⟨e0, e1⟩ := one_of hr
    rw [List.getElem?_take, if_pos (by omega), List.getElem?_drop] at e0 e1
    refine ⟨?_, ?_⟩
    · simpa using e0
    · simpa using e1
  have k0 := key 0 _ _ (by rw [h1]; rfl) (by omega)
  have k1 := key 1 _ _ (by rw [h1]; rfl) (by omega)
  have k2 := key 2 _ _ (by rw [h1]; rfl) (by omega)
  have k3 := key 3 _ _ (by rw [h1]; rfl) (by omega)
  have k4 := key 4 _ _ (by rw [h1]; rfl) (by omega)
  refine ⟨?_, ?_⟩
  · intro i v hv
    rw [hc]
    have hi : i < 10 := (List.getElem?_eq_some_iff.1 hv).1
    match i, hi with
    | 0, _ => exact k0.1.trans hv
    | 1, _ => exact k0.2.trans hv
    | 2, _ => exact k1.1.trans hv
    | 3, _ => exact k1.2.trans hv
    | 4, _ => exact k2.1.trans hv
    | 5, _ => exact k2.2.trans hv
    | 6, _ => exact k3.1.trans hv
    | 7, _ => exact k3.2.trans hv
    | 8, _ => exact k4.1.trans hv
    | 9, _ => exact k4.2.trans hv
  · rcases Nat.lt_or_ge 0 W.heap.size with hlt | hge
    · exact hlt
    · exfalso
      have e : W.heap[0]? = none := Array.getElem?_eq_none hge
      have := (hc 0).trans k0.1
      simp [World.cell?, e] at this
end Go.Proofs.YtapjmfgpdkghlaaDoor
