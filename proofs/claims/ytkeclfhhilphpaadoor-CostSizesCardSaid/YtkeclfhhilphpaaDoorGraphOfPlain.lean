/- Which entities lead to which, in plain words; entities in memory. -/
import Derived.Test.YtkeclfhhilphpaaDoorRefOnce
import Derived.Test.YtkeclfhhilphpaaDoorGraphOrder
namespace Go.Proofs.YtkeclfhhilphpaaDoor
open Go.RowKit Go.Maps Go.Proofs.YtkeclfhhilphpaaDoor.GraphPlain Go.Proofs.YtkeclfhhilphpaaDoor.RefPlain
structure Ent where
  na : ByteArray
  tx : ByteArray
  out : Bool
  pu : ByteArray
  sy : ByteArray
  no : ByteArray
  deriving Inhabited, DecidableEq
/-- One entity at an address. -/
def EntAt (w : World) (a : Addr) (e : Ent) : Prop :=
  a.block < w.heap.size ∧ w.cell? a = some (.string e.na) ∧ w.cell? ⟨a.block, a.off + 1, none⟩ = some (.string e.tx) ∧ w.cell? ⟨a.block, a.off + 2, none⟩ = some (.bool e.out) ∧ w.cell? ⟨a.block, a.off + 3, none⟩ = some (.string e.pu) ∧ w.cell? ⟨a.block, a.off + 4, none⟩ = some (.string e.sy) ∧ w.cell? ⟨a.block, a.off + 5, none⟩ = some (.string e.no)
def EntsAt (w : World) (A : Option Addr) (n : Nat) (l : List Ent) : Prop := l.length = n ∧ ∀ i, i < n → ∃ a e, A = some a ∧ l[i]? = some e ∧ EntAt w (a.add (i * 6)) e
def Ent.val (e : Ent) : Value := .agg #[.string e.na, .string e.tx, .bool e.out, .string e.pu, .string e.sy, .string e.no]
theorem EntAt.below {w w' : World} {a : Addr} {e : Ent} (h : EntAt w a e) (hb : Below w.heap.size w w') : EntAt w' a e := by
  obtain ⟨h0, h1, h2, h3, h4, h5, h6⟩ := h
  exact ⟨Nat.lt_of_lt_of_le h0 hb.size, (hb.cell h0).trans h1, (hb.cell (p := ⟨a.block, a.off + 1, none⟩) h0).trans h2, (hb.cell (p := ⟨a.block, a.off + 2, none⟩) h0).trans h3, (hb.cell (p := ⟨a.block, a.off + 3, none⟩) h0).trans h4, (hb.cell (p := ⟨a.block, a.off + 4, none⟩) h0).trans h5, (hb.cell (p := ⟨a.block, a.off + 5, none⟩) h0).trans h6⟩
theorem EntsAt.below {w w' : World} {A : Option Addr} {n : Nat} {l : List Ent} (h : EntsAt w A n l) (hb : Below w.heap.size w w') : EntsAt w' A n l := ⟨h.1, fun i hi => by
  obtain ⟨a, e, h1, h2, h3⟩ := h.2 i hi
  exact ⟨a, e, h1, h2, h3.below hb⟩⟩
/-- One entity more: the first of its name counts, if it lies within. -/
def addE (acc : List Ent) (x : Ent) : List Ent := if x.out = true ∨ hasT (acc.map Ent.na) x.na = true then acc else acc ++ [x]
def innerN (l : List Ent) : List Ent := l.foldl addE []
theorem innerN_next {l : List Ent} {k : Nat} {x : Ent} (h : l[k]? = some x) : innerN (l.take (k + 1)) = addE (innerN (l.take k)) x := by
  unfold innerN
  rw [List.take_add_one, h]
  show List.foldl addE [] (l.take k ++ [x]) = _
  rw [List.foldl_append]; rfl
theorem addE_len (acc : List Ent) (x : Ent) : (addE acc x).length ≤ acc.length + 1 := by unfold addE; split <;> simp
theorem innerN_len (l : List Ent) : ∀ k, (innerN (l.take k)).length ≤ k := by
  intro k
  induction k with
  | zero => simp [innerN]
  | succ k ih =>
    cases h : l[k]? with
    | none =>
      rw [List.take_add_one, h]
      simp; exact Nat.le_trans ih (Nat.le_succ _)
    | some x => rw [innerN_next h]; exact Nat.le_trans (addE_len _ _) (by omega)
/-- The place of a name, 0 if it is not there. -/
def idxT (ns : List ByteArray) (y : ByteArray) : Nat := (ns.findIdx? fun x => decide (x = y)).getD 0
theorem idxT_new {ns : List ByteArray} {x : ByteArray} (h : hasT ns x = false) : idxT (ns ++ [x]) x = ns.length := by
  unfold idxT
  have : ns.findIdx? (fun z => decide (z = x)) = none := by
    rw [List.findIdx?_eq_none_iff]
    intro z hz
    unfold hasT at h
    rw [List.any_eq_false] at h
    have := h z hz
    simpa using this
  rw [List.findIdx?_append, this]
  simp
theorem idxT_other {ns : List ByteArray} {x y : ByteArray} (h : ¬ x = y) : idxT (ns ++ [x]) y = idxT ns y := by
  unfold idxT
  rw [List.findIdx?_append]
  cases ns.findIdx? (fun z => decide (z = y)) with
  | none => simp [h]
  | some k => simp
theorem idxT_lt {ns : List ByteArray} {y : ByteArray} (h : hasT ns y = true) : idxT ns y < ns.length := by
  unfold idxT
  cases hf : ns.findIdx? (fun z => decide (z = y)) with
  | none =>
    rw [List.findIdx?_eq_none_iff] at hf
    unfold hasT at h
    rw [List.any_eq_true] at h
    obtain ⟨z, hz, e⟩ := h
    rw [hf z hz] at e; cases e
  | some k => exact (List.findIdx?_eq_some_iff_getElem.1 hf).1
/-- The places to which a text leads. -/
def toN (ns : List ByteArray) (l : List ByteArray) : List Nat := (l.filter fun y => hasT ns y).map (idxT ns)
theorem toN_next {ns l : List ByteArray} {k : Nat} {y : ByteArray} (h : l[k]? = some y) : toN ns (l.take (k + 1)) = if hasT ns y = true then toN ns (l.take k) ++ [idxT ns y] else toN ns (l.take k) := by
  unfold toN
  rw [List.take_add_one, h]
  show ((l.take k ++ [y]).filter _).map _ = _
  rw [List.filter_append]
  cases hh : hasT ns y with
  | true => simp [hh]
  | false => simp [hh]
def entG (l : List Ent) : Gr := (innerN l).map fun x => toN ((innerN l).map Ent.na) (outN true (namesOf x.tx))
theorem entG_ok (l : List Ent) : okG (entG l) := by
  intro i k hk
  unfold row entG at hk
  rw [List.getD_eq_getElem?_getD, List.getElem?_map] at hk
  cases hx : (innerN l)[i]? with
  | none => rw [hx] at hk; cases hk
  | some x =>
    rw [hx] at hk
    simp only [Option.map_some, Option.getD_some, toN] at hk
    obtain ⟨y, hy, rfl⟩ := List.mem_map.1 hk
    have := idxT_lt (List.mem_filter.1 hy).2
    rw [entG, List.length_map]
    simpa using this
/-- The map of names and places. -/
def KeyI (D : DataW Unit) (ns : List ByteArray) : Prop := ∀ y : ByteArray, Maps.has D (.string y.data.toList) = hasT ns y ∧ D.atKey (.string y.data.toList) (.lit (.int .i64 0)) = .lit (.int .i64 (idxT ns y))
theorem KeyI_put {D : DataW Unit} {ns : List ByteArray} {x : ByteArray} (h : KeyI D ns) (hm : IsMap D) (hx : hasT ns x = false) : KeyI (D.put (.string x.data.toList) (.lit (.int .i64 (ns.length : Nat)))) (ns ++ [x]) := by
  intro y
  by_cases hyx : x = y
  · subst hyx
    refine ⟨?_, ?_⟩
    · rw [hasT_snoc, decide_eq_true rfl, Bool.or_true]
      exact has_true_of_atKey (fun z => atKey_put_same hm (show WideAt.IsKeyLit (.string x.data.toList) from trivial) _ z)
    · rw [atKey_put_same hm (show WideAt.IsKeyLit (.string x.data.toList) from trivial), idxT_new hx]
  · have hne : (Lit.string y.data.toList) ≠ .string x.data.toList := fun e => hyx (Go.WideShapes.bytes_inj (Lit.string.inj e)).symm
    refine ⟨?_, ?_⟩
    · rw [hasT_snoc, decide_eq_false hyx, Bool.or_false, ← (h y).1]
      rw [has_put_other hne]
    · rw [atKey_put_other hne, (h y).2, idxT_other hyx]
end Go.Proofs.YtkeclfhhilphpaaDoor
