/- Merged texts: CharsTabs, UtfTabs, KnownTab. -/
import Derived.Test.YtkeclfhhilphpaaDoorCharsCalls
import Derived.Test.YtkeclfhhilphpaaDoorRows
import Derived.Lib.LaidTab
import Derived.OpenShut
import Derived.Test.YtkeclfhhilphpaaDoorUtfDecode
import Derived.Deep.Strs
import Derived.ChangeArms
import Derived.Test.YtkeclfhhilphpaaDoorCostMa
import Derived.ChangeSame
/- From what the row lists to the cells of the three tables. Conditions: the listed variables read as listed. -/
namespace Go.Proofs.YtkeclfhhilphpaaDoor
open Go.RowKit Go.Shelf Go.Proofs.YtkeclfhhilphpaaDoor.CharsPlain
/-- A listed variable, wherever it stands in the list, reads as it is listed. -/
theorem laidVars_mem {P : Program} {W : World} {laid : List (String × DataW Unit)} {ps : List MemPlace} (h : DataW.LaidVars P W laid ps) {x : String × DataW Unit} (hx : x ∈ laid) :
    ∃ g t cs fuel p, P.globalNamed x.1 = some g ∧ (P.globals[g]?).map (·.type) = some t ∧ W.var? P x.1 = some cs ∧ DataW.trod (fun _ => ()) P W 0 (fun _ => true) false fuel t cs.toList = some (x.2, p) := by
  induction laid generalizing ps with
  | nil => cases hx
  | cons y rest ih =>
    obtain ⟨g, t, cs, fuel, p, q, h1, h2, h3, h4, h5, _⟩ := h
    cases hx with
    | head => exact ⟨g, t, cs, fuel, p, h1, h2, h3, h4⟩
    | tail _ hx => exact ih h5 hx
theorem laid_mem {P : Program} {W : World} {laid : List (String × DataW Unit)} (h : laidMet P laid W) {name : String} {d : DataW Unit} (hx : (name, d) ∈ laid) {g : Nat} {t : TypeId}
    (hg : P.globalNamed name = some g) (ht : (P.globals[g]?).map (·.type) = some t) :
    ∃ cs fuel p, W.var? P name = some cs ∧ DataW.trod (fun _ => ()) P W 0 (fun _ => true) false fuel t cs.toList = some (d, p) := by
  obtain ⟨ps, h, _⟩ := h
  obtain ⟨g', t', cs, fuel, p, h1, h2, h3, h4⟩ := laidVars_mem h hx
  obtain rfl := Option.some.inj (hg.symm.trans h1)
  obtain rfl := Option.some.inj (ht.symm.trans h2)
  exact ⟨cs, fuel, p, h3, h4⟩
/-- A table of pairs of numbers: its cells, pair by pair. -/
theorem pairs_of {P : Program} {W : World} {fuel : Nat} {t e i : TypeId} {n : Nat} {cs : List Value} {rs : List (Int × Int)} {p : List MemPlace}
    (ht : P.underlying t = some (.array n e)) (he : P.underlying e = some (.array 2 i)) (hi : P.underlying i = some (.int .i64)) (hci : P.cellsOf i = 1) (hce : P.cellsOf e = 2)
    (h : DataW.trod (fun _ => ()) P W 0 (fun _ => true) false fuel t cs = some (.agg (rs.map fun x => Lib.tabData .i64 [x.1, x.2]), p)) (k : Nat) (x y : Int) (hk : rs[k]? = some (x, y)) :
    cs[k * 2]? = some (.int .i64 x) ∧ cs[k * 2 + 1]? = some (.int .i64 y) := by
  obtain ⟨xs, m, _, hx, hl, hn, hel⟩ := DataW.trod_array ht h
  have h1 : xs.map (·.1) = rs.map fun x => Lib.tabData .i64 [x.1, x.2] := by
    have := congrArg Prod.fst hx
    simpa using this.symm
  have hk1 : xs[k]?.map (·.1) = some (Lib.tabData .i64 [x, y]) := by
    rw [← List.getElem?_map, h1, List.getElem?_map, hk]; rfl
  obtain ⟨z, hz, hz1⟩ := Option.map_eq_some_iff.1 hk1
  have hkn : k < n := by rw [← hn]; exact (List.getElem?_eq_some_iff.1 hz).1
  have hr := hel k hkn
  rw [hz, hce] at hr
  have hz2 : z = (Lib.tabData .i64 [x, y], z.2) := by rw [← hz1]
  rw [hz2] at hr
  have hc := Lib.cells_of_tab he hi hci hce hr
  have e0 : ((cs.drop (k * 2)).take 2)[0]? = some (.int .i64 x) := by rw [hc]; rfl
  have e1 : ((cs.drop (k * 2)).take 2)[1]? = some (.int .i64 y) := by rw [hc]; rfl
  rw [List.getElem?_take, if_pos (by omega), List.getElem?_drop] at e0 e1
  exact ⟨e0, e1⟩
theorem runsAt_of {W : World} {laid : List (String × DataW Unit)} (h : laidMet Tryd.prog laid W) {name : String} {rs : List (Int × Int)} (hx : (name, DataW.agg (rs.map fun x => Lib.tabData .i64 [x.1, x.2])) ∈ laid) {g : Nat} {t e i : TypeId} {n : Nat}
    (hg : Tryd.prog.globalNamed name = some g) (hty : (Tryd.prog.globals[g]?).map (·.type) = some t)
    (ht : Tryd.prog.underlying t = some (.array n e)) (he : Tryd.prog.underlying e = some (.array 2 i)) (hi : Tryd.prog.underlying i = some (.int .i64)) (hci : Tryd.prog.cellsOf i = 1) (hce : Tryd.prog.cellsOf e = 2) (h0 : 0 < rs.length) :
    RunsAt W g rs ∧ g < W.heap.size := by
  obtain ⟨cs, fuel, p, hv, hd⟩ := laid_mem h hx hg hty
  have hr : RunsAt W g rs := fun k hk => by
    obtain ⟨h1, h2⟩ := pairs_of ht he hi hci hce hd k (rs[k]).1 (rs[k]).2 (List.getElem?_eq_getElem hk)
    refine ⟨(rs[k]).1, (rs[k]).2, List.getElem?_eq_getElem hk, ?_, ?_⟩
    · rw [World.var?_cell hg hv]; simpa using h1
    · rw [World.var?_cell hg hv]; simpa using h2
  refine ⟨hr, ?_⟩
  obtain ⟨x, y, _, h2, _⟩ := hr 0 h0
  rcases Nat.lt_or_ge g W.heap.size with hlt | hge
  · exact hlt
  · exfalso
    have e : W.heap[g]? = none := Array.getElem?_eq_none hge
    simp [World.cell?, e] at h2
theorem Tryd.cellsInt : Tryd.prog.cellsOf 3 = 1 := by kernel_rfl
theorem Tryd.cellsPair : Tryd.prog.cellsOf 120 = 2 := by kernel_rfl
theorem tabs_of {W : World} {laid : List (String × DataW Unit)} (h : laidMet Tryd.prog laid W)
    (h2 : ("narthex/chars.starts", Rows.laid_narthex_chars_starts) ∈ laid) (h3 : ("narthex/chars.more", Rows.laid_narthex_chars_more) ∈ laid) : Tabs W := by
  have e2 := runsAt_of (rs := starts) h h2 (g := 2) (t := 121) (by kernel_rfl) (by kernel_rfl) Tryd.underlying121 Tryd.underlying120 Tryd.underlying3 Tryd.cellsInt Tryd.cellsPair (by decide)
  have e3 := runsAt_of (rs := mores) h h3 (g := 3) (t := 122) (by kernel_rfl) (by kernel_rfl) Tryd.underlying122 Tryd.underlying120 Tryd.underlying3 Tryd.cellsInt Tryd.cellsPair (by decide)
  exact ⟨e2.1, e3.1, e2.2, e2.2, e3.2⟩
end Go.Proofs.YtkeclfhhilphpaaDoor
/- From what the row lists to the table of forms. -/
namespace Go.Proofs.YtkeclfhhilphpaaDoor
open Go.RowKit Go.Shelf Go.ChangeShapes
theorem Tryd.cellsForm : Tryd.prog.cellsOf 128 = 3 := by kernel_rfl
theorem Tryd.cellsU8 : Tryd.prog.cellsOf 5 = 1 := by kernel_rfl
theorem form_of {W : World} {fuel : Nat} {cs : List Value} {a b c : Int} {p : List MemPlace}
    (h : DataW.trod (fun _ => ()) Tryd.prog W 0 (fun _ => true) false fuel 128 cs = some (.agg [.lit (.int .u8 a), .lit (.int .u8 b), .lit (.int .i64 c)], p)) :
    cs[0]? = some (.int .u8 a) ∧ cs[1]? = some (.int .u8 b) ∧ cs[2]? = some (.int .i64 c) := by
  obtain ⟨y0, y1, y2, n, hx, _, h0, h1, h2⟩ := Go.Deep.trod_struct3 Tryd.underlying128 h
  obtain ⟨n0, c0, e0, _⟩ := DataW.trod_int Tryd.underlying5 h0
  obtain ⟨n1, c1, e1, _⟩ := DataW.trod_int Tryd.underlying5 h1
  obtain ⟨n2, c2, e2, _⟩ := DataW.trod_int Tryd.underlying3 h2
  subst e0 e1 e2
  simp only [Prod.mk.injEq, DataW.agg.injEq, List.cons.injEq, DataW.lit.injEq, Lit.int.injEq, true_and, and_true] at hx
  obtain ⟨⟨rfl, rfl, rfl⟩, _⟩ := hx
  simp only [Tryd.cellsU8, Tryd.cellsInt] at c0 c1 c2
  have g0 := congrArg (fun l : List Value => l[0]?) c0
  have g1 := congrArg (fun l : List Value => l[0]?) c1
  have g2 := congrArg (fun l : List Value => l[0]?) c2
  simp only [List.getElem?_take, List.getElem?_drop] at g0 g1 g2
  exact ⟨by simpa using g0, by simpa using g1, by simpa using g2⟩
theorem forms_of {W : World} {laid : List (String × DataW Unit)} (h : laidMet Tryd.prog laid W) (hx : ("narthex/utf.forms", Rows.laid_narthex_utf_forms) ∈ laid) : FormsAt W := by
  obtain ⟨cs, fuel, p, hv, hd⟩ := laid_mem h hx (g := 4) (t := 129) (by kernel_rfl) (by kernel_rfl)
  obtain ⟨xs, m, _, hq, hl, hn, hel⟩ := DataW.trod_array Tryd.underlying129 hd
  have hc : ∀ i, W.cell? ⟨4, i, none⟩ = cs[i]? := fun i => World.var?_cell (by kernel_rfl : Tryd.prog.globalNamed "narthex/utf.forms" = some 4) hv i
  have h1 : xs.map (·.1) = [.agg [.lit (.int .u8 0), .lit (.int .u8 0), .lit (.int .i64 0)], .agg [.lit (.int .u8 0), .lit (.int .u8 127), .lit (.int .i64 0)], .agg [.lit (.int .u8 192), .lit (.int .u8 31), .lit (.int .i64 128)], .agg [.lit (.int .u8 224), .lit (.int .u8 15), .lit (.int .i64 2048)], .agg [.lit (.int .u8 240), .lit (.int .u8 7), .lit (.int .i64 65536)]] := by
    have := congrArg Prod.fst hq
    simpa [Rows.laid_narthex_utf_forms] using this.symm
  have key : ∀ k a b c, (xs.map (·.1))[k]? = some (DataW.agg [.lit (.int .u8 a), .lit (.int .u8 b), .lit (.int .i64 c)]) → k < 5 →
      cs[k * 3]? = some (.int .u8 a) ∧ cs[k * 3 + 1]? = some (.int .u8 b) ∧ cs[k * 3 + 2]? = some (.int .i64 c) := by
    intro k a b c hk hk5
    rw [List.getElem?_map] at hk
    obtain ⟨z, hz, hz1⟩ := Option.map_eq_some_iff.1 hk
    have hr := hel k hk5
    rw [hz, Tryd.cellsForm] at hr
    have hz2 : z = (DataW.agg [.lit (.int .u8 a), .lit (.int .u8 b), .lit (.int .i64 c)], z.2) := by rw [← hz1]
    rw [hz2] at hr
    obtain ⟨e0, e1, e2⟩ := form_of hr
    rw [List.getElem?_take, if_pos (by omega), List.getElem?_drop] at e0 e1 e2
    refine ⟨?_, ?_, ?_⟩
    · simpa using e0
    · simpa using e1
    · simpa using e2
  have k0 := key 0 _ _ _ (by rw [h1]; rfl) (by omega)
  have k1 := key 1 _ _ _ (by rw [h1]; rfl) (by omega)
  have k2 := key 2 _ _ _ (by rw [h1]; rfl) (by omega)
  have k3 := key 3 _ _ _ (by rw [h1]; rfl) (by omega)
  have k4 := key 4 _ _ _ (by rw [h1]; rfl) (by omega)
  refine ⟨?_, ?_⟩
  · intro i v hv
    rw [hc]
    have hi : i < 15 := (List.getElem?_eq_some_iff.1 hv).1
    match i, hi with
    | 0, _ => exact k0.1.trans hv
    | 1, _ => exact k0.2.1.trans hv
    | 2, _ => exact k0.2.2.trans hv
    | 3, _ => exact k1.1.trans hv
    | 4, _ => exact k1.2.1.trans hv
    | 5, _ => exact k1.2.2.trans hv
    | 6, _ => exact k2.1.trans hv
    | 7, _ => exact k2.2.1.trans hv
    | 8, _ => exact k2.2.2.trans hv
    | 9, _ => exact k3.1.trans hv
    | 10, _ => exact k3.2.1.trans hv
    | 11, _ => exact k3.2.2.trans hv
    | 12, _ => exact k4.1.trans hv
    | 13, _ => exact k4.2.1.trans hv
    | 14, _ => exact k4.2.2.trans hv
  · rcases Nat.lt_or_ge 4 W.heap.size with hlt | hge
    · exact hlt
    · exfalso
      have e : W.heap[4]? = none := Array.getElem?_eq_none hge
      have := (hc 0).trans k0.1
      simp [World.cell?, e] at this
end Go.Proofs.YtkeclfhhilphpaaDoor
/- From what the row lists to the table of the entities that are always known. -/
namespace Go.Proofs.YtkeclfhhilphpaaDoor
open Go.RowKit Go.Shelf Go.ChangeShapes
theorem Tryd.cellsOne : Tryd.prog.cellsOf 99 = 2 := by kernel_rfl
theorem Tryd.cellsStrK : Tryd.prog.cellsOf 9 = 1 := by kernel_rfl
theorem one_of {W : World} {fuel : Nat} {cs : List Value} {s : List UInt8} {b : Int} {p : List MemPlace}
    (h : DataW.trod (fun _ => ()) Tryd.prog W 0 (fun _ => true) false fuel 99 cs = some (.agg [.lit (.string s), .lit (.int .i64 b)], p)) :
    cs[0]? = some (.string ⟨s.toArray⟩) ∧ cs[1]? = some (.int .i64 b) := by
  obtain ⟨y0, y1, n, hx, _, h0, h1⟩ := trod_struct2 Tryd.underlying99 h
  obtain ⟨t0, c0, e0, _⟩ := DataW.trod_string Tryd.underlying9 h0
  obtain ⟨n1, c1, e1, _⟩ := DataW.trod_int Tryd.underlying3 h1
  subst e0 e1
  simp only [Prod.mk.injEq, DataW.agg.injEq, List.cons.injEq, DataW.lit.injEq, Lit.int.injEq, Lit.string.injEq, true_and, and_true] at hx
  obtain ⟨⟨rfl, rfl⟩, _⟩ := hx
  simp only [Tryd.cellsStrK, Tryd.cellsInt] at c0 c1
  have g0 := congrArg (fun l : List Value => l[0]?) c0
  have g1 := congrArg (fun l : List Value => l[0]?) c1
  simp only [List.getElem?_take, List.getElem?_drop] at g0 g1
  refine ⟨?_, by simpa using g1⟩
  have : (⟨t0.data.toList.toArray⟩ : ByteArray) = t0 := by cases t0; simp
  rw [this]
  simpa using g0
theorem known_of {W : World} {laid : List (String × DataW Unit)} (h : laidMet Tryd.prog laid W) (hx : ("narthex/cref.known", Rows.laid_narthex_cref_known) ∈ laid) : KnownAt W := by
  obtain ⟨cs, fuel, p, hv, hd⟩ := laid_mem h hx (g := 0) (t := 100) (by kernel_rfl) (by kernel_rfl)
  obtain ⟨xs, m, _, hq, hl, hn, hel⟩ := DataW.trod_array Tryd.underlying100 hd
  have hc : ∀ i, W.cell? ⟨0, i, none⟩ = cs[i]? := fun i => World.var?_cell (by kernel_rfl : Tryd.prog.globalNamed "narthex/cref.known" = some 0) hv i
  have h1 : xs.map (·.1) = [.agg [.lit (.string [108, 116]), .lit (.int .i64 60)], .agg [.lit (.string [103, 116]), .lit (.int .i64 62)], .agg [.lit (.string [97, 109, 112]), .lit (.int .i64 38)], .agg [.lit (.string [97, 112, 111, 115]), .lit (.int .i64 39)], .agg [.lit (.string [113, 117, 111, 116]), .lit (.int .i64 34)]] := by
    have := congrArg Prod.fst hq
    simpa [Rows.laid_narthex_cref_known] using this.symm
  have key : ∀ k s b, (xs.map (·.1))[k]? = some (DataW.agg [.lit (.string s), .lit (.int .i64 b)]) → k < 5 →
      cs[k * 2]? = some (.string ⟨s.toArray⟩) ∧ cs[k * 2 + 1]? = some (.int .i64 b) := by
    intro k s b hk hk5
    rw [List.getElem?_map] at hk
    obtain ⟨z, hz, hz1⟩ := Option.map_eq_some_iff.1 hk
    have hr := hel k hk5
    rw [hz, Tryd.cellsOne] at hr
    have hz2 : z = (DataW.agg [.lit (.string s), .lit (.int .i64 b)], z.2) := by rw [← hz1]
    rw [hz2] at hr
    obtain ⟨e0, e1⟩ := one_of hr
    rw [List.getElem?_take, if_pos (by omega), List.getElem?_drop] at e0 e1
    refine ⟨?_, ?_⟩
    · simpa using e0
    · simpa using e1
  have k0 := key 0 _ _ (by rw [h1]; rfl) (by omega)
  have k1 := key 1 _ _ (by rw [h1]; rfl) (by omega)
  have k2 := key 2 _ _ (by rw [h1]; rfl) (by omega)
  have k3 := key 3 _ _ (by rw [h1]; rfl) (by omega)
  have k4 := key 4 _ _ (by rw [h1]; rfl) (by omega)
  refine ⟨?_, ?_⟩
  · intro i v hv
    rw [hc]
    have hi : i < 10 := (List.getElem?_eq_some_iff.1 hv).1
    match i, hi with
    | 0, _ => exact k0.1.trans hv
    | 1, _ => exact k0.2.trans hv
    | 2, _ => exact k1.1.trans hv
    | 3, _ => exact k1.2.trans hv
    | 4, _ => exact k2.1.trans hv
    | 5, _ => exact k2.2.trans hv
    | 6, _ => exact k3.1.trans hv
    | 7, _ => exact k3.2.trans hv
    | 8, _ => exact k4.1.trans hv
    | 9, _ => exact k4.2.trans hv
  · rcases Nat.lt_or_ge 0 W.heap.size with hlt | hge
    · exact hlt
    · exfalso
      have e : W.heap[0]? = none := Array.getElem?_eq_none hge
      have := (hc 0).trans k0.1
      simp [World.cell?, e] at this
end Go.Proofs.YtkeclfhhilphpaaDoor
