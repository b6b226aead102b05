/- From what the row lists to the cells of the three tables. Conditions: the listed variables read as listed. -/
import Derived.Test.YtlifdmehejehjaaDoorCharsCalls
import Derived.Test.YtlifdmehejehjaaDoorRows
import Derived.Lib.LaidTab
import Derived.OpenShut
namespace Go.Proofs.YtlifdmehejehjaaDoor
open Go.RowKit Go.Shelf Go.Proofs.YtlifdmehejehjaaDoor.CharsPlain
/-- A listed variable, wherever it stands in the list, reads as it is listed. -/
theorem laidVars_mem {P : Program} {W : World} {laid : List (String × DataW Unit)} {ps : List MemPlace} (h : DataW.LaidVars P W laid ps) {x : String × DataW Unit} (hx : x ∈ laid) :
    ∃ g t cs fuel p, P.globalNamed x.1 = some g ∧ (P.globals[g]?).map (·.type) = some t ∧ W.var? P x.1 = some cs ∧ DataW.trod (fun _ => ()) P W 0 (fun _ => true) false fuel t cs.toList = some (x.2, p) := by
  induction laid generalizing ps with
  | nil => cases hx
  | cons y rest ih =>
    obtain ⟨g, t, cs, fuel, p, q, h1, h2, h3, h4, h5, _⟩ := h
    cases hx with
    | head => exact ⟨g, t, cs, fuel, p, h1, h2, h3, h4⟩
    | tail _ hx => exact ih h5 hx
theorem laid_mem {P : Program} {W : World} {laid : List (String × DataW Unit)} (h : laidMet P laid W) {name : String} {d : DataW Unit} (hx : (name, d) ∈ laid) {g : Nat} {t : TypeId}
    (hg : P.globalNamed name = some g) (ht : (P.globals[g]?).map (·.type) = some t) :
    ∃ cs fuel p, W.var? P name = some cs ∧ DataW.trod (fun _ => ()) P W 0 (fun _ => true) false fuel t cs.toList = some (d, p) := by
  obtain ⟨ps, h, _⟩ := h
  obtain ⟨g', t', cs, fuel, p, h1, h2, h3, h4⟩ := laidVars_mem h hx
  obtain rfl := Option.some.inj (hg.symm.trans h1)
  obtain rfl := Option.some.inj (ht.symm.trans h2)
  exact ⟨cs, fuel, p, h3, h4⟩
/-- A table of pairs of numbers: its cells, pair by pair. -/
theorem pairs_of {P : Program} {W : World} {fuel : Nat} {t e i : TypeId} {n : Nat} {cs : List Value} {rs : List (Int × Int)} {p : List MemPlace}
    (ht : P.underlying t = some (.array n e)) (he : P.underlying e = some (.array 2 i)) (hi : P.underlying i = some (.int .i64)) (hci : P.cellsOf i = 1) (hce : P.cellsOf e = 2)
    (h : DataW.trod (fun _ => ()) P W 0 (fun _ => true) false fuel t cs = some (.agg (rs.map fun x => Lib.tabData .i64 [x.1, x.2]), p)) (k : Nat) (x y : Int) (hk : rs[k]? = some (x, y)) :
    cs[k * 2]? = some (.int .i64 x) ∧ cs[k * 2 + 1]? = some (.int .i64 y) := by
  obtain ⟨xs, m, _, hx, hl, hn, hel⟩ := DataW.trod_array ht h
  have h1 : xs.map (·.1) = rs.map fun x => Lib.tabData .i64 [x.1, x.2] := by
    have := congrArg Prod.fst hx
    simpa using this.symm
  have hk1 : xs[k]?.map (·.1) = some (Lib.tabData .i64 [x, y]) := by
    rw [← List.getElem?_map, h1, List.getElem?_map, hk]; rfl
  obtain ⟨z, hz, hz1⟩ := Option.map_eq_some_iff.1 hk1
  have hkn : k < n := by rw [← hn]; exact (List.getElem?_eq_some_iff.1 hz).1
  have hr := hel k hkn
  rw [hz, hce] at hr
  have hz2 : z = (Lib.tabData .i64 [x, y], z.2) := by rw [← hz1]
  rw [hz2] at hr
  have hc := Lib.cells_of_tab he hi hci hce hr
  have e0 : ((cs.drop (k * 2)).take 2)[0]? = some (.int .i64 x) := by rw [hc]; rfl
  have e1 : ((cs.drop (k * 2)).take 2)[1]? = some (.int .i64 y) := by rw [hc]; rfl
  rw [List.getElem?_take, if_pos (by omega), List.getElem?_drop] at e0 e1
  exact ⟨e0, e1⟩
theorem runsAt_of {W : World} {laid : List (String × DataW Unit)} (h : laidMet Tryd.prog laid W) {name : String} {rs : List (Int × Int)} (hx : (name, DataW.agg (rs.map fun x => Lib.tabData .i64 [x.1, x.2])) ∈ laid) {g : Nat} {t e i : TypeId} {n : Nat}
    (hg : Tryd.prog.globalNamed name = some g) (hty : (Tryd.prog.globals[g]?).map (·.type) = some t)
    (ht : Tryd.prog.underlying t = some (.array n e)) (he : Tryd.prog.underlying e = some (.array 2 i)) (hi : Tryd.prog.underlying i = some (.int .i64)) (hci : Tryd.prog.cellsOf i = 1) (hce : Tryd.prog.cellsOf e = 2) (h0 : 0 < rs.length) :
    RunsAt W g rs ∧ g < W.heap.size := by
  obtain ⟨cs, fuel, p, hv, hd⟩ := laid_mem h hx hg hty
  have hr : RunsAt W g rs := fun k hk => by
    obtain ⟨h1, h2⟩ := pairs_of ht he hi hci hce hd k (rs[k]).1 (rs[k]).2 (List.getElem?_eq_getElem hk)
    refine ⟨(rs[k]).1, (rs[k]).2, List.getElem?_eq_getElem hk, ?_, ?_⟩
    · rw [World.var?_cell hg hv]; simpa using h1
    · rw [World.var?_cell hg hv]; simpa using h2
  refine ⟨hr, ?_⟩
  obtain ⟨x, y, _, h2, _⟩ := hr 0 h0
  rcases Nat.lt_or_ge g W.heap.size with hlt | hge
  · exact hlt
  · exfalso
    have e : W.heap[g]? = none := Array.getElem?_eq_none hge
    simp [World.cell?, e] at h2
theorem Tryd.cellsInt : Tryd.prog.cellsOf 3 = 1 := by kernel_rfl
theorem Tryd.cellsPair : Tryd.prog.cellsOf 123 = 2 := by kernel_rfl
theorem tabs_of {W : World} {laid : List (String × DataW Unit)} (h : laidMet Tryd.prog laid W)
    (h2 : ("narthex/chars.starts", Rows.laid_narthex_chars_starts) ∈ laid) (h3 : ("narthex/chars.more", Rows.laid_narthex_chars_more) ∈ laid) : Tabs W := by
  have e2 := runsAt_of (rs := starts) h h2 (g := 3) (t := 124) (by kernel_rfl) (by kernel_rfl) Tryd.underlying124 Tryd.underlying123 Tryd.underlying3 Tryd.cellsInt Tryd.cellsPair (by decide)
  have e3 := runsAt_of (rs := mores) h h3 (g := 4) (t := 125) (by kernel_rfl) (by kernel_rfl) Tryd.underlying125 Tryd.underlying123 Tryd.underlying3 Tryd.cellsInt Tryd.cellsPair (by decide)
  exact ⟨e2.1, e3.1, e2.2, e2.2, e3.2⟩
end Go.Proofs.YtlifdmehejehjaaDoor
