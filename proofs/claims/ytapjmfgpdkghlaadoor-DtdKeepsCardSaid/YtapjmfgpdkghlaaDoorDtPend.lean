/- A thing is laid into a row: its name into the map, itself behind the others. Conditions: none. -/
import Derived.Test.YtapjmfgpdkghlaaDoorDtM
namespace Go.Proofs.YtapjmfgpdkghlaaDoor
open Go.RowKit Go.Maps
set_option linter.unusedVariables false
set_option linter.unusedSimpArgs false
def addN1 (ns : List ByteArray) (s : ByteArray) : List ByteArray := if hasT ns s = true then ns else ns ++ [s]
def addC (ns : List ByteArray) (s : ByteArray) (xs ys : List Value) : List Value := if hasT ns s = true then xs else xs ++ ys
def AddTold (base : Nat) (t e : TypeId) (sz : Nat) (R : Rm) (ns : List ByteArray) (xs : List Value) (s : ByteArray) (ys : List Value) (w : World) (en : Ending) (w' : World) : Prop :=
  en = .returned (.tuple #[]) ∧ ∃ R', RowAt w' base t e sz R' (addN1 ns s) (addC ns s xs ys) ∧ KeepG w w' R.foot ∧ (∀ k, R'.foot k → R.foot k ∨ w.heap.size ≤ k) ∧ R'.rb = R.rb
structure Pend (w W : World) (base : Nat) (t e : TypeId) (sz : Nat) (R : Rm) (D' : DataW Unit) (ns : List ByteArray) (xs : List Value) (s : ByteArray) : Prop where
  blk : Box2 W R.rb t (.map (some R.M)) (.slice R.A ns.length R.c)
  map : IntMap W R.M (R.m + 1) D'
  key : KeyI D' (ns ++ [s])
  few : R.m ≤ ns.length
  row : W.ownsRow base e sz (.slice R.A ns.length R.c) ns.length xs
  keep : KeepG w W R.foot
  b1 : base ≤ R.rb
  b2 : base ≤ R.M
  old : ∀ k, R.foot k → k < w.heap.size
variable {w W W' : World} {base : Nat} {t e : TypeId} {sz : Nat} {R : Rm} {D' : DataW Unit} {ns : List ByteArray} {xs ys : List Value} {s : ByteArray}
theorem map_not_cellsD {M m g : Nat} {D : DataW Unit} {cs : Array Value} {t : TypeId} {f : Nat × Nat} (h : IntMap w M m D) (hr : w.heap[g]? = some (.cells cs t f)) : g ≠ M := by
  obtain ⟨es, clock, h1, _⟩ := h
  rintro rfl
  rw [h1] at hr; cases hr
theorem map_not_rowD {M m n : Nat} {D : DataW Unit} {v : Value} (h : IntMap w M m D) (hr : w.ownsRow base e sz v n xs) : v.ownBlock ≠ some M := by
  intro hv
  obtain ⟨_, _, cs, hh⟩ := own_blk hr hv
  exact map_not_cellsD h hh rfl
theorem Pend.of_row (h : RowAt w base t e sz R ns xs) (hB : Below w.heap.size w W) (hg : W.grownBy W' (some R.M)) (hm : IntMap W' R.M (R.m + 1) D') (hk : KeyI D' (ns ++ [s])) : Pend w W' base t e sz R D' ns xs s := by
  have h1 := h.below hB
  have hne : some R.rb ≠ some R.M := fun e => map_not_cellsD h1.map h1.blk (Option.some.inj e)
  refine ⟨h1.blk.kept hg hne, hm, hk, h.few, own_same h1.row (fun b hv => hg.block b (own_blk h1.row hv).1 (fun e => map_not_rowD h1.map h1.row (hv.trans e))), ?_, h.b1, h.b2, fun k hk => (h.lt hk).1⟩
  exact (KeepG.of_below hB _).trans ((KeepG.of_grown hg _ (fun k hk _ => by cases hk; exact .inr (.inl rfl))))
theorem Pend.below (h : Pend w W base t e sz R D' ns xs s) (hb : Below W.heap.size W W') : Pend w W' base t e sz R D' ns xs s :=
  ⟨h.blk.below hb, map_same h.map (hb.block _ h.map.lt), h.key, h.few, own_same h.row (fun b hv => hb.block b (own_blk h.row hv).1), h.keep.trans (KeepG.of_below hb _), h.b1, h.b2, h.old⟩
structure Pend2 (w W : World) (base : Nat) (t e : TypeId) (sz : Nat) (R : Rm) (A : Option Addr) (c : Nat) (D' : DataW Unit) (ns : List ByteArray) (xs : List Value) (s : ByteArray) : Prop where
  blk : Box2 W R.rb t (.map (some R.M)) (.slice R.A ns.length R.c)
  map : IntMap W R.M (R.m + 1) D'
  key : KeyI D' (ns ++ [s])
  few : R.m ≤ ns.length
  row : W.ownsRow base e sz (.slice A (ns.length + 1) c) (ns.length + 1) xs
  keep : KeepG w W R.foot
  b1 : base ≤ R.rb
  b2 : base ≤ R.M
  foot : ∀ k, (Value.slice A (ns.length + 1) c).ownBlock = some k → R.foot k ∨ w.heap.size ≤ k
  old : ∀ k, R.foot k → k < w.heap.size
theorem Pend.grow (h : Pend w W base t e sz R D' ns xs s) (hte : t ≠ e) {A : Option Addr} {c : Nat} (ho : W'.ownsRow base e sz (.slice A (ns.length + 1) c) (ns.length + 1) (xs ++ ys)) (hg : W.grownBy W' (Value.slice R.A ns.length R.c).ownBlock)
    (hb : (Value.slice A (ns.length + 1) c).ownBlock = (Value.slice R.A ns.length R.c).ownBlock ∨ (Value.slice A (ns.length + 1) c).ownBlock = some W.heap.size) : Pend2 w W' base t e sz R A c D' ns (xs ++ ys) s := by
  refine ⟨h.blk.kept hg (h.blk.not_row hte h.row), map_same h.map (hg.block _ h.map.lt (fun e => map_not_rowD h.map h.row e.symm)), h.key, h.few, ho, h.keep.trans (KeepG.of_grown hg _ (fun k hk _ => .inr (.inr ?_))), h.b1, h.b2, fun k hk => ?_, h.old⟩
  · rw [ownBlock_len _ 0 ns.length]; exact hk
  · rcases hb with hb | hb
    · rw [hb] at hk
      refine .inl (.inr (.inr ?_))
      rw [ownBlock_len _ 0 ns.length]; exact hk
    · rw [hb] at hk
      cases hk
      exact .inr h.keep.size
theorem Pend2.store {A : Option Addr} {c : Nat} (h : Pend2 w W base t e sz R A c D' ns (xs ++ ys) s) (hte : t ≠ e) (hn : hasT ns s = false) (w0 : World) (hw : w0 = W.setCell ⟨R.rb, 1, none⟩ (.slice A (ns.length + 1) c)) :
    AddTold base t e sz R ns xs s ys w (.returned (.tuple #[])) w0 := by
  subst hw
  have e1 : addN1 ns s = ns ++ [s] := if_neg (by rw [hn]; decide)
  have e2 : addC ns s xs ys = xs ++ ys := if_neg (by rw [hn]; decide)
  refine ⟨rfl, ⟨R.rb, R.M, A, c, R.m + 1, D'⟩, ?_, ?_, ?_, rfl⟩
  · rw [e1, e2]
    have hl : (ns ++ [s]).length = ns.length + 1 := by simp
    refine ⟨?_, ?_, h.key, by rw [hl]; exact Nat.succ_le_succ h.few, ?_, h.b1, h.b2⟩
    · rw [hl]; exact h.blk.set1 _
    · exact map_same h.map (Below.heap_setCell W _ _ R.M (fun e => map_not_cellsD h.map h.blk e.symm))
    · rw [hl]
      exact ownsRow_setCell_other h.row (fun e => h.blk.not_row hte h.row e.symm) _
  · exact h.keep.set (b := R.rb) (i := 1) (.inr (.inl rfl))
  · intro k hk
    rcases hk with rfl | rfl | hk
    · exact .inl (.inl rfl)
    · exact .inl (.inr (.inl rfl))
    · rw [ownBlock_len _ 0 (ns.length + 1)] at hk
      exact h.foot k hk
theorem AddTold.same (h : RowAt w base t e sz R ns xs) (hb : Below w.heap.size w W) (hn : hasT ns s = true) : AddTold base t e sz R ns xs s ys w (.returned (.tuple #[])) W := by
  have e1 : addN1 ns s = ns := if_pos hn
  have e2 : addC ns s xs ys = xs := if_pos hn
  refine ⟨rfl, R, ?_, KeepG.of_below hb _, fun k hk => .inl hk, rfl⟩
  rw [e1, e2]
  exact h.below hb
end Go.Proofs.YtapjmfgpdkghlaaDoor
