/- From what the row lists to the table of forms. -/
import Derived.Test.YtlifdmehejehjaaDoorCharsTabs
import Derived.Test.YtlifdmehejehjaaDoorUtfDecode
import Derived.Deep.Strs
import Derived.ChangeArms
namespace Go.Proofs.YtlifdmehejehjaaDoor
open Go.RowKit Go.Shelf Go.ChangeShapes
theorem Tryd.cellsForm : Tryd.prog.cellsOf 134 = 3 := by kernel_rfl
theorem Tryd.cellsU8 : Tryd.prog.cellsOf 5 = 1 := by kernel_rfl
theorem form_of {W : World} {fuel : Nat} {cs : List Value} {a b c : Int} {p : List MemPlace}
    (h : DataW.trod (fun _ => ()) Tryd.prog W 0 (fun _ => true) false fuel 134 cs = some (.agg [.lit (.int .u8 a), .lit (.int .u8 b), .lit (.int .i64 c)], p)) :
    cs[0]? = some (.int .u8 a) ∧ cs[1]? = some (.int .u8 b) ∧ cs[2]? = some (.int .i64 c) := by
  obtain ⟨y0, y1, y2, n, hx, _, h0, h1, h2⟩ := Go.Deep.trod_struct3 Tryd.underlying134 h
  obtain ⟨n0, c0, e0, _⟩ := DataW.trod_int Tryd.underlying5 h0
  obtain ⟨n1, c1, e1, _⟩ := DataW.trod_int Tryd.underlying5 h1
  obtain ⟨n2, c2, e2, _⟩ := DataW.trod_int Tryd.underlying3 h2
  subst e0 e1 e2
  simp only [Prod.mk.injEq, DataW.agg.injEq, List.cons.injEq, DataW.lit.injEq, Lit.int.injEq, true_and, and_true] at hx
  obtain ⟨⟨rfl, rfl, rfl⟩, _⟩ := hx
  simp only [Tryd.cellsU8, Tryd.cellsInt] at c0 c1 c2
  have g0 := congrArg (fun l : List Value => l[0]?) c0
  have g1 := congrArg (fun l : List Value => l[0]?) c1
  have g2 := congrArg (fun l : List Value => l[0]?) c2
  simp only [List.getElem?_take, List.getElem?_drop] at g0 g1 g2
  exact ⟨by simpa using g0, by simpa using g1, by simpa using g2⟩
theorem forms_of {W : World} {laid : List (String × DataW Unit)} (h : laidMet Tryd.prog laid W) (hx : ("narthex/utf.forms", Rows.laid_narthex_utf_forms) ∈ laid) : FormsAt W := by
  obtain ⟨cs, fuel, p, hv, hd⟩ := laid_mem h hx (g := 5) (t := 135) (by kernel_rfl) (by kernel_rfl)
  obtain ⟨xs, m, _, hq, hl, hn, hel⟩ := DataW.trod_array Tryd.underlying135 hd
  have hc : ∀ i, W.cell? ⟨5, i, none⟩ = cs[i]? := fun i => World.var?_cell (by kernel_rfl : Tryd.prog.globalNamed "narthex/utf.forms" = some 5) hv i
  have h1 : xs.map (·.1) = [.agg [.lit (.int .u8 0), .lit (.int .u8 0), .lit (.int .i64 0)], .agg [.lit (.int .u8 0), .lit (.int .u8 127), .lit (.int .i64 0)], .agg [.lit (.int .u8 192), .lit (.int .u8 31), .lit (.int .i64 128)], .agg [.lit (.int .u8 224), .lit (.int .u8 15), .lit (.int .i64 2048)], .agg [.lit (.int .u8 240), .lit (.int .u8 7), .lit (.int .i64 65536)]] := by
    have := congrArg Prod.fst hq
    simpa [Rows.laid_narthex_utf_forms] using this.symm
  have key : ∀ k a b c, (xs.map (·.1))[k]? = some (DataW.agg [.lit (.int .u8 a), .lit (.int .u8 b), .lit (.int .i64 c)]) → k < 5 →
      cs[k * 3]? = some (.int .u8 a) ∧ cs[k * 3 + 1]? = some (.int .u8 b) ∧ cs[k * 3 + 2]? = some (.int .i64 c) := by
    intro k a b c hk hk5
    rw [List.getElem?_map] at hk
    obtain ⟨z, hz, hz1⟩ := Option.map_eq_some_iff.1 hk
    have hr := hel k hk5
    rw [hz, Tryd.cellsForm] at hr
    have hz2 : z = (DataW.agg [.lit (.int .u8 a), .lit (.int .u8 b), .lit (.int .i64 c)], z.2) := by rw [← hz1]
    rw [hz2] at hr
    obtain ⟨e0, e1, e2⟩ := form_of hr
    rw [List.getElem?_take, if_pos (by omega), List.getElem?_drop] at e0 e1 e2
    refine ⟨?_, ?_, ?_⟩
    · simpa using e0
    · simpa using e1
    · simpa using e2
  have k0 := key 0 _ _ _ (by rw [h1]; rfl) (by omega)
  have k1 := key 1 _ _ _ (by rw [h1]; rfl) (by omega)
  have k2 := key 2 _ _ _ (by rw [h1]; rfl) (by omega)
  have k3 := key 3 _ _ _ (by rw [h1]; rfl) (by omega)
  have k4 := key 4 _ _ _ (by rw [h1]; rfl) (by omega)
  refine ⟨?_, ?_⟩
  · intro i v hv
    rw [hc]
    have hi : i < 15 := (List.getElem?_eq_some_iff.1 hv).1
    match i, hi with
    | 0, _ => exact k0.1.trans hv
    | 1, _ => exact k0.2.1.trans hv
    | 2, _ => exact k0.2.2.trans hv
    | 3, _ => exact k1.1.trans hv
    | 4, _ => exact k1.2.1.trans hv
    | 5, _ => exact k1.2.2.trans hv
    | 6, _ => exact k2.1.trans hv
    | 7, _ => exact k2.2.1.trans hv
    | 8, _ => exact k2.2.2.trans hv
    | 9, _ => exact k3.1.trans hv
    | 10, _ => exact k3.2.1.trans hv
    | 11, _ => exact k3.2.2.trans hv
    | 12, _ => exact k4.1.trans hv
    | 13, _ => exact k4.2.1.trans hv
    | 14, _ => exact k4.2.2.trans hv
  · rcases Nat.lt_or_ge 5 W.heap.size with hlt | hge
    · exact hlt
    · exfalso
      have e : W.heap[5]? = none := Array.getElem?_eq_none hge
      have := (hc 0).trans k0.1
      simp [World.cell?, e] at this
end Go.Proofs.YtlifdmehejehjaaDoor
