/- Rows of entities in memory; narthexref17.Same, Find. Conditions: none. -/
import Derived.Test.YtapjmfgpdkghlaaDoorDtAddT
import Derived.Deep.QuietTactic
import Derived.BigQuiet
namespace Go.Proofs.YtapjmfgpdkghlaaDoor
open Go.RowKit Go.Maps
set_option linter.unusedVariables false
set_option linter.unusedSimpArgs false
/-- One entity's six cells. -/
structure EnCell (w : World) (a : Addr) (e : Ent) : Prop where
  lt : a.block < w.heap.size
  c0 : w.cell? a = some (.string e.na)
  c1 : w.cell? ⟨a.block, a.off + 1, none⟩ = some (.string e.tx)
  c2 : w.cell? ⟨a.block, a.off + 2, none⟩ = some (.bool e.out)
  c3 : w.cell? ⟨a.block, a.off + 3, none⟩ = some (.string e.pu)
  c4 : w.cell? ⟨a.block, a.off + 4, none⟩ = some (.string e.sy)
  c5 : w.cell? ⟨a.block, a.off + 5, none⟩ = some (.string e.no)
theorem EnCell.same {w w' : World} {a : Addr} {d : Ent} (h : EnCell w a d) (hs : w.heap.size ≤ w'.heap.size) (hb : w'.heap[a.block]? = w.heap[a.block]?) : EnCell w' a d :=
  ⟨Nat.lt_of_lt_of_le h.lt hs, (World.cell?_of_block hb).trans h.c0, (World.cell?_of_block (a := ⟨a.block, _, none⟩) hb).trans h.c1, (World.cell?_of_block (a := ⟨a.block, _, none⟩) hb).trans h.c2, (World.cell?_of_block (a := ⟨a.block, _, none⟩) hb).trans h.c3, (World.cell?_of_block (a := ⟨a.block, _, none⟩) hb).trans h.c4, (World.cell?_of_block (a := ⟨a.block, _, none⟩) hb).trans h.c5⟩
def EnsAt (w : World) (A : Option Addr) (n : Nat) (es : List Ent) : Prop := es.length = n ∧ ∀ i, i < n → ∃ a e, A = some a ∧ es[i]? = some e ∧ EnCell w (a.add (i * 6)) e
theorem EnsAt.below {w w' : World} {A : Option Addr} {n : Nat} {es : List Ent} (h : EnsAt w A n es) (hb : Below w.heap.size w w') : EnsAt w' A n es :=
  ⟨h.1, fun i hi => by
    obtain ⟨a, d, h1, h2, h3⟩ := h.2 i hi
    exact ⟨a, d, h1, h2, h3.same hb.size (hb.block _ h3.lt)⟩⟩
theorem addD (g k : Nat) : (⟨g, 0, none⟩ : Addr).add k = ⟨g, k, none⟩ := by unfold Addr.add; split <;> simp_all
theorem flat_at {α : Type} (f : α → List Value) (sz : Nat) (hf : ∀ x, (f x).length = sz) : ∀ (l : List α) (i : Nat) (x : α) (j : Nat) (u : Value), l[i]? = some x → (f x)[j]? = some u → (l.flatMap f)[i * sz + j]? = some u
  | [], i, x, j, u, h, _ => by simp at h
  | y :: l, 0, x, j, u, h, hu => by
    obtain rfl : y = x := by simpa using h
    rw [List.flatMap_cons, List.getElem?_append_left (by have := (List.getElem?_eq_some_iff.1 hu).1; omega)]
    simpa using hu
  | y :: l, i + 1, x, j, u, h, hu => by
    rw [List.flatMap_cons, List.getElem?_append_right (by rw [hf, Nat.add_mul]; omega), hf]
    have e : (i + 1) * sz + j - sz = i * sz + j := by rw [Nat.add_mul]; omega
    rw [e]
    exact flat_at f sz hf l i x j u (by simpa using h) hu
theorem EnsAt.of_own {w : World} {base c : Nat} {A : Option Addr} {e : TypeId} {es : List Ent} (h : w.ownsRow base e 6 (.slice A es.length c) es.length (entCells es)) : EnsAt w A es.length es := by
  refine ⟨rfl, fun i hi => ?_⟩
  obtain ⟨g, hA⟩ := row_base h (by omega)
  subst hA
  have hx : es[i]? = some es[i] := List.getElem?_eq_getElem hi
  have hc : ∀ j u, es[i].cells[j]? = some u → w.cell? ⟨g, i * 6 + j, none⟩ = some u := fun j u hj => by
    have h2 := flat_at Ent.cells 6 (fun _ => rfl) es i es[i] j u hx hj
    rw [h.cellAt _ (by have := (List.getElem?_eq_some_iff.1 h2).1; have h1 := h.1; first | unfold entCells at h1; omega | unfold dfCells at h1; omega)]
    exact h2
  refine ⟨_, es[i], rfl, hx, ?_⟩
  rw [addD]
  exact ⟨(h.lt g rfl).2, hc 0 _ rfl, hc 1 _ rfl, hc 2 _ rfl, hc 3 _ rfl, hc 4 _ rfl, hc 5 _ rfl⟩
theorem DfsAt.of_own {w : World} {base c : Nat} {A : Option Addr} {e : TypeId} {ds : List Df} (h : w.ownsRow base e 5 (.slice A ds.length c) ds.length (dfCells ds)) (hw : ∀ d ∈ ds, TsAt w d.A d.p.ws.length d.p.ws) : DfsAt w A ds.length ds := by
  refine ⟨rfl, fun i hi => ?_⟩
  obtain ⟨g, hA⟩ := row_base h (by omega)
  subst hA
  have hx : ds[i]? = some ds[i] := List.getElem?_eq_getElem hi
  have hc : ∀ j u, ds[i].cells[j]? = some u → w.cell? ⟨g, i * 5 + j, none⟩ = some u := fun j u hj => by
    have h2 := flat_at Df.cells 5 (fun _ => rfl) ds i ds[i] j u hx hj
    rw [h.cellAt _ (by have := (List.getElem?_eq_some_iff.1 h2).1; have h1 := h.1; first | unfold entCells at h1; omega | unfold dfCells at h1; omega)]
    exact h2
  refine ⟨_, ds[i], rfl, hx, ?_, hw _ (List.getElem_mem _)⟩
  rw [addD]
  exact ⟨(h.lt g rfl).2, hc 0 _ rfl, hc 1 _ rfl, hc 2 _ rfl, hc 3 _ rfl, hc 4 _ rfl⟩
theorem toL_injD {a b : ByteArray} : a.toList = b.toList ↔ a = b := by
  rw [ByteArray.toList_eq, ByteArray.toList_eq]
  exact ⟨Go.WideShapes.bytes_inj, fun h => by rw [h]⟩
theorem entNeq (x y : Ent) (w : World) : (binOp .neq 46 (.agg #[.string x.na, .string x.tx, .bool x.out, .string x.pu, .string x.sy, .string x.no]) (.agg #[.string y.na, .string y.tx, .bool y.out, .string y.pu, .string y.sy, .string y.no])).run Tryd.prog w = .ok (.bool (!decide (x = y))) w := by
  obtain ⟨a, b, c, d, e, f⟩ := x
  obtain ⟨a', b', c', d', e', f'⟩ := y
  go_simp
  simp only [toL_injD]
  by_cases h1 : a = a' <;> by_cases h2 : b = b' <;> by_cases h3 : c = c' <;> by_cases h4 : d = d' <;> by_cases h5 : e = e' <;> by_cases h6 : f = f' <;> simp [h1, h2, h3, h4, h5, h6]
theorem entEql (x y : Ent) (w : World) : (binOp .eql 46 (.agg #[.string x.na, .string x.tx, .bool x.out, .string x.pu, .string x.sy, .string x.no]) (.agg #[.string y.na, .string y.tx, .bool y.out, .string y.pu, .string y.sy, .string y.no])).run Tryd.prog w = .ok (.bool (decide (x = y))) w := by
  obtain ⟨a, b, c, d, e, f⟩ := x
  obtain ⟨a', b', c', d', e', f'⟩ := y
  go_simp
  simp only [toL_injD]
  by_cases h1 : a = a' <;> by_cases h2 : b = b' <;> by_cases h3 : c = c' <;> by_cases h4 : d = d' <;> by_cases h5 : e = e' <;> by_cases h6 : f = f' <;> simp [h1, h2, h3, h4, h5, h6]
theorem idEql (p q p' q' : ByteArray) (w : World) : (binOp .eql 44 (.agg #[.string p, .string q]) (.agg #[.string p', .string q'])).run Tryd.prog w = .ok (.bool (decide (p = p' ∧ q = q'))) w := by
  go_simp
  simp only [toL_injD]
  by_cases h1 : p = p' <;> by_cases h2 : q = q' <;> simp [h1, h2]
theorem idNeq (p q p' q' : ByteArray) (w : World) : (binOp .neq 44 (.agg #[.string p, .string q]) (.agg #[.string p', .string q'])).run Tryd.prog w = .ok (.bool (!decide (p = p' ∧ q = q'))) w := by
  go_simp
  simp only [toL_injD]
  by_cases h1 : p = p' <;> by_cases h2 : q = q' <;> simp [h1, h2]
set_option maxHeartbeats 4000000 in
theorem rsame_any (A : Option Addr) (n c : Nat) (l : List Ent) (A' : Option Addr) (n' c' : Nat) (m : List Ent) (w : World) (hl : EnsAt w A n l) (hm : EnsAt w A' n' m) (hn : n ≤ 9223372036854775807) :
    Calls Tryd.prog 14 #[.slice A n c, .slice A' n' c'] w (RetD (decide (l = m)) w) := by
  have L := Lib.hid hl
  have M := Lib.hid hm
  clear hl hm
  by_cases hne : n = n'
  · subst hne
    go_enter Tryd.func14, Tryd.ntmps14
    go_wp2
    go_loopw [5] (fun i wr => ∃ (k d : Nat), k ≤ n ∧ i = .int .i64 k ∧ Hid (l.take k = m.take k) ∧ wr = w.drewN d) (fun i _ => n - (intOf i).toNat)
    case atStart => exact ⟨0, 0, by omega, rfl, rfl, rfl⟩
    case round =>
      obtain ⟨k, d, hk, rfl, HT, rfl⟩ := hrel
      by_cases hlt : k < n
      · obtain ⟨a, x, rfl, hx, g⟩ := L.out.2 k hlt
        obtain ⟨b, y, rfl, hy, i⟩ := M.out.2 k hlt
        obtain ⟨_, g0, g1, g2, g3, g4, g5⟩ := g
        obtain ⟨_, i0, i1, i2, i3, i4, i5⟩ := i
        have b0 : (0 : Int) ≤ (k : Int) := by omega
        have b1 : (k : Int) < (n : Int) := by omega
        have X := Lib.hid hx
        have Y := Lib.hid hy
        have q := fun w' => entNeq x y w'
        clear hx hy
        by_cases hxy : x = y
        · have XY := Lib.hid hxy
          simp only [decide_eq_true hxy, Bool.not_true] at q
          clear hxy
          go_wp2_with fail
          go_quiet (fail)
          go_wp2
          go_roundw
          case rel => exact ⟨k + 1, _, by omega, by go_num, takesEqT HT.out X.out (by rw [XY.out]; exact Y.out), rfl⟩
          case measure => simp [intOf]; omega
        · have XY := Lib.hid hxy
          simp only [decide_eq_false hxy, Bool.not_false] at q
          clear hxy
          go_wp2_with fail
          go_quiet (fail)
          go_wp2
          go_ret
          have G : decide (l = m) = false := by
            refine decide_eq_false fun h => XY.out ?_
            have h1 := X.out
            rw [h, Y.out] at h1
            exact (Option.some.inj h1).symm
          rw [G]
          exact ⟨rfl, d + nq, by simp⟩
      · obtain rfl : k = n := by omega
        go_wp2
        go_ret
        have G : decide (l = m) = true := by
          refine decide_eq_true ?_
          have := HT.out
          rwa [List.take_of_length_le (by rw [L.out.1]; exact Nat.le_refl _), List.take_of_length_le (by rw [M.out.1]; exact Nat.le_refl _)] at this
        rw [G]
        exact ⟨rfl, d, rfl⟩
  · have q0 : ((n : Int) != (n' : Int)) = true := by simp; omega
    have G : decide (l = m) = false := by
      refine decide_eq_false fun h => hne ?_
      rw [← L.out.1, ← M.out.1, h]
    clear hne
    go_enter Tryd.func14, Tryd.ntmps14
    go_wp2
    go_ret
    rw [G]
    exact ⟨rfl, 0, rfl⟩
/-- The place of a name; below 0: it is not there. -/
def findI (ns : List ByteArray) (s : ByteArray) : Int := if hasT ns s = true then ((idxT ns s : Nat) : Int) else -1
theorem findI_at {ns : List ByteArray} {s : ByteArray} {k : Nat} (h : hasT (ns.take k) s = false) (hk : ns[k]? = some s) : findI ns s = k := by
  have hh : hasT ns s = true := hasT_mem.2 (List.mem_of_getElem? hk)
  unfold findI
  rw [if_pos hh]
  unfold idxT
  have : ns.findIdx? (fun x => decide (x = s)) = some k := by
    rw [List.findIdx?_eq_some_iff_getElem]
    obtain ⟨h1, h2⟩ := List.getElem?_eq_some_iff.1 hk
    refine ⟨h1, by rw [h2]; simp, fun j hj => ?_⟩
    have h3 := hasT_no h (ns[j]) (by
      have : (ns.take k)[j]? = some ns[j] := by rw [List.getElem?_take, if_pos hj]; exact List.getElem?_eq_getElem (by omega)
      exact List.mem_of_getElem? this)
    simpa using h3
  rw [this]; rfl
theorem hasT_take {ns : List ByteArray} {s x : ByteArray} {k : Nat} (hk : ns[k]? = some x) : hasT (ns.take (k + 1)) s = (hasT (ns.take k) s || decide (x = s)) := by
  rw [List.take_add_one, hk]
  exact hasT_snoc _ _ _
set_option maxHeartbeats 2000000 in
theorem rfind_any (A : Option Addr) (n c : Nat) (l : List Ent) (s : ByteArray) (w : World) (hl : EnsAt w A n l) (hn : n ≤ 9223372036854775807) :
    Calls Tryd.prog 22 #[.slice A n c, .string s] w (RetI (findI (l.map Ent.na) s) w) := by
  have L := Lib.hid hl
  clear hl
  go_enter Tryd.func22, Tryd.ntmps22
  go_wp2
  go_loopw [5] (fun i wr => ∃ (k : Nat), k ≤ n ∧ i = .int .i64 k ∧ Hid (hasT ((l.map Ent.na).take k) s = false) ∧ wr = w) (fun i _ => n - (intOf i).toNat)
  case atStart => exact ⟨0, by omega, rfl, rfl, rfl⟩
  case round =>
    obtain ⟨k, hk, rfl, HT, rfl⟩ := hrel
    by_cases hlt : k < n
    · obtain ⟨a, x, rfl, hx, g⟩ := L.out.2 k hlt
      obtain ⟨_, g0, g1, g2, g3, g4, g5⟩ := g
      have b0 : (0 : Int) ≤ (k : Int) := by omega
      have b1 : (k : Int) < (n : Int) := by omega
      have X := Lib.hid (show (l.map Ent.na)[k]? = some x.na by rw [List.getElem?_map, hx]; rfl)
      clear hx
      by_cases hxy : x.na = s
      · have XY := Lib.hid hxy
        have q : (x.na.toList == s.toList) = true := by rw [hxy]; simp
        clear hxy
        go_wp2
        go_ret
        exact ⟨by rw [findI_at HT.out (by rw [X.out, XY.out])]; rfl, rfl⟩
      · have q : (x.na.toList == s.toList) = false := strT_no hxy
        have H2 := Lib.hid (show hasT ((l.map Ent.na).take (k + 1)) s = false by rw [hasT_take X.out, HT.out, decide_eq_false hxy]; rfl)
        clear hxy
        go_wp2
        go_roundw
        case rel => exact ⟨k + 1, by omega, by go_num, H2, trivial⟩
        case measure => simp [intOf]; omega
    · obtain rfl : k = n := by omega
      go_wp2
      go_ret
      have G : findI (l.map Ent.na) s = -1 := by
        have := HT.out
        rw [List.take_of_length_le (by rw [List.length_map, L.out.1]; exact Nat.le_refl _)] at this
        unfold findI
        rw [if_neg (by rw [this]; decide)]
      exact ⟨by rw [G]; rfl, rfl⟩
end Go.Proofs.YtapjmfgpdkghlaaDoor
