/- Rows of things by their names, in memory: a box of a map and a slice. Conditions: none. -/
import Derived.Test.YtapjmfgpdkghlaaDoorDtP
import Derived.Test.YtapjmfgpdkghlaaDoorBox2
import Derived.Test.YtapjmfgpdkghlaaDoorStepRow
import Derived.Below
import Derived.OneCell
import Derived.Lib.Hide
namespace Go.Proofs.YtapjmfgpdkghlaaDoor
open Go.RowKit Go.Maps
set_option linter.unusedVariables false
set_option linter.unusedSimpArgs false
theorem lawD : Keyed Tryd.prog 9 := string_keyed Tryd.underlying9
theorem zeroD (w : World) : (zeroValue 3).run Tryd.prog w = .ok (.int .i64 0) w := by kernel_rfl
theorem litIntD {a b : Int} (h : (DataW.lit (.int .i64 a) : DataW Unit) = .lit (.int .i64 b)) : a = b := by cases h; rfl
abbrev IntMap (w : World) (M m : Nat) (D : DataW Unit) : Prop := w.ownsMap Tryd.prog 9 (plainElem (H := Unit) Tryd.prog 3) M m D
theorem key_look {w : World} {M m : Nat} {D : DataW Unit} {ns : List ByteArray} (hM : IntMap w M m D) (hK : KeyI D ns) (s : ByteArray) (hs : s.size ≤ maxLen) :
    (Instr.lookup 63 (.map (some M)) (.string s) true).run Tryd.prog w = .ok (.tuple #[.int .i64 (idxT ns s), .bool (hasT ns s)]) w := by
  have hkey : keyOf Tryd.prog 9 (.string s) = some (.string s.data.toList) := WideMaps.keyOf_string_mk Tryd.underlying9 hs
  obtain ⟨vv, ps, hrun, hR⟩ := hM.look_ok lawD Tryd.underlying63 (zeroD _) (zd := .lit (.int .i64 0)) (zp := []) (plainElem_int Tryd.underlying3 (by decide)) hkey
  obtain ⟨v, rfl, h2, _⟩ := plainElem_int_inv Tryd.underlying3 hR
  have h3 := congrArg Prod.fst h2
  rw [(hK s).1] at hrun
  have h4 : (idxT ns s : Int) = v := litIntD ((hK s).2.symm.trans h3)
  rw [h4]; exact hrun
theorem key_store {w : World} {M m : Nat} {D : DataW Unit} {ns : List ByteArray} (hM : IntMap w M m D) (hK : KeyI D ns) (hm : m < maxLen) (s : ByteArray) (hs : s.size ≤ maxLen) (hn : hasT ns s = false) (hl : ns.length ≤ 1048576) :
    ∃ w' D', (Instr.mapUpdate 63 (.map (some M)) (.string s) (.int .i64 (ns.length : Nat))).run Tryd.prog w = .ok () w' ∧ IntMap w' M (m + 1) D' ∧ KeyI D' (ns ++ [s]) ∧ w.grownBy w' (some M) := by
  have hkey : keyOf Tryd.prog 9 (.string s) = some (.string s.data.toList) := WideMaps.keyOf_string_mk Tryd.underlying9 hs
  have hwf : (Lit.int .i64 ((ns.length : Nat) : Int)).wf = true := by
    have h1 := wrap64_wf ((ns.length : Nat) : Int)
    rwa [show wrap64 ((ns.length : Nat) : Int) = ((ns.length : Nat) : Int) from by unfold wrap64; omega] at h1
  obtain ⟨w', h1, h2, h3⟩ := hM.update lawD Tryd.underlying63 hm hkey (plainElem_int Tryd.underlying3 hwf)
  exact ⟨w', _, h1, h2, hK.put hM.isMap hn, h3⟩
/-- All blocks stand but those of a set. -/
structure KeepG (w w' : World) (P : Nat → Prop) : Prop where
  os : w'.os = w.os
  tape : w'.tape = w.tape
  output : w'.output = w.output
  size : w.heap.size ≤ w'.heap.size
  block : ∀ k, k < w.heap.size → ¬ P k → w'.heap[k]? = w.heap[k]?
theorem KeepG.of_grown {w w' : World} {r : Option Nat} (h : w.grownBy w' r) (P : Nat → Prop) (hp : ∀ k, r = some k → k < w.heap.size → P k) : KeepG w w' P :=
  ⟨h.os, h.tape, h.output, h.size, fun k hk hn => h.block k hk (fun e => hn (hp k e.symm hk))⟩
theorem KeepG.of_below {w w' : World} (h : Below w.heap.size w w') (P : Nat → Prop) : KeepG w w' P := ⟨h.os, h.tape, h.output, h.size, fun k hk _ => h.block k hk⟩
theorem KeepG.trans {w w1 w2 : World} {P : Nat → Prop} (h : KeepG w w1 P) (h2 : KeepG w1 w2 P) : KeepG w w2 P :=
  ⟨h2.os.trans h.os, h2.tape.trans h.tape, h2.output.trans h.output, Nat.le_trans h.size h2.size, fun k hk hn => (h2.block k (Nat.lt_of_lt_of_le hk h.size) hn).trans (h.block k hk hn)⟩
theorem KeepG.below {w w' : World} {P : Nat → Prop} {B : Nat} (h : KeepG w w' P) (hB : B ≤ w.heap.size) (hp : ∀ k, P k → B ≤ k) : Below B w w' :=
  ⟨h.os, h.tape, h.output, h.size, fun k hk => h.block k (Nat.lt_of_lt_of_le hk hB) (fun hpk => by have := hp k hpk; omega)⟩
theorem KeepG.mono {w w' : World} {P Q : Nat → Prop} (h : KeepG w w' P) (hp : ∀ k, k < w.heap.size → P k → Q k) : KeepG w w' Q := ⟨h.os, h.tape, h.output, h.size, fun k hk hn => h.block k hk (fun hpk => hn (hp k hk hpk))⟩
theorem KeepG.set {w W : World} {P : Nat → Prop} (h : KeepG w W P) {b i : Nat} {u : Value} (hb : w.heap.size ≤ b ∨ P b) : KeepG w (W.setCell ⟨b, i, none⟩ u) P :=
  ⟨h.os, h.tape, h.output, by simpa using h.size, fun k hk hn => (Below.heap_setCell _ _ _ k (by
    show k ≠ b
    rintro rfl
    rcases hb with hb | hb
    · omega
    · exact hn hb)).trans (h.block k hk hn)⟩
theorem KeepG.drew {w W : World} {P : Nat → Prop} (h : KeepG w W P) : KeepG w W.drew P := ⟨h.os, h.tape, h.output, h.size, h.block⟩
theorem own_blk {w : World} {base : Nat} {e : TypeId} {size : Nat} {v : Value} {n : Nat} {xs : List Value} (h : w.ownsRow base e size v n xs) {b : Nat} (hb : v.ownBlock = some b) : b < w.heap.size ∧ base ≤ b ∧ ∃ cs, w.heap[b]? = some (.cells cs e (0, 0)) := by
  rcases h.2 with ⟨rfl, _⟩ | ⟨g, cap, cur, rfl, hg, hh, _⟩
  · cases hb
  · obtain rfl : g = b := by simpa [Value.ownBlock] using hb
    exact ⟨(Array.getElem?_eq_some_iff.1 hh).1, hg, _, hh⟩
theorem own_same {w w' : World} {base : Nat} {e : TypeId} {size : Nat} {v : Value} {n : Nat} {xs : List Value} (h : w.ownsRow base e size v n xs) (hs : ∀ b, v.ownBlock = some b → w'.heap[b]? = w.heap[b]?) : w'.ownsRow base e size v n xs := by
  refine ⟨h.1, ?_⟩
  rcases h.2 with h2 | ⟨g, cap, cur, rfl, hg, hh, r⟩
  · exact .inl h2
  · exact .inr ⟨g, cap, cur, rfl, hg, (hs g rfl).trans hh, r⟩
theorem own_lowerD {w : World} {base base' : Nat} {e : TypeId} {size : Nat} {v : Value} {n : Nat} {xs : List Value} (h : w.ownsRow base e size v n xs) (hb : base' ≤ base) : w.ownsRow base' e size v n xs := by
  refine ⟨h.1, ?_⟩
  rcases h.2 with h2 | ⟨g, cap, cur, hv, hg, r⟩
  · exact .inl h2
  · exact .inr ⟨g, cap, cur, hv, Nat.le_trans hb hg, r⟩
theorem own_shapeD {w : World} {base size n : Nat} {e : TypeId} {v : Value} {xs : List Value} (h : w.ownsRow base e size v n xs) : ∃ A c, v = .slice A n c ∧ n ≤ c ∧ c ≤ maxLen := by
  rcases h.2 with ⟨hv, hn⟩ | ⟨g, cap, cur, rfl, _, _, h3, h4, _⟩
  · exact ⟨none, 0, by rw [hv, hn], by omega, Nat.zero_le _⟩
  · exact ⟨_, cap, rfl, h3, h4⟩
theorem map_same {H : Type} {w w' : World} {n M : Nat} {D : DataW H} {R : Value → Option (DataW H × List MemPlace)} (h : w.ownsMap Tryd.prog 9 R M n D) (hb : w'.heap[M]? = w.heap[M]?) : w'.ownsMap Tryd.prog 9 R M n D := by
  obtain ⟨es, clock, h1, r⟩ := h
  exact ⟨es, clock, hb.trans h1, r⟩
/-- A row's blocks: its box, its map, its slice. -/
structure Rm where
  rb : Nat
  M : Nat
  A : Option Addr
  c : Nat
  m : Nat
  D : DataW Unit
def Rm.foot (R : Rm) (k : Nat) : Prop := k = R.rb ∨ k = R.M ∨ (Value.slice R.A 0 R.c).ownBlock = some k
structure RowAt (w : World) (base : Nat) (t e : TypeId) (sz : Nat) (R : Rm) (ns : List ByteArray) (xs : List Value) : Prop where
  blk : Box2 w R.rb t (.map (some R.M)) (.slice R.A ns.length R.c)
  map : IntMap w R.M R.m R.D
  key : KeyI R.D ns
  few : R.m ≤ ns.length
  row : w.ownsRow base e sz (.slice R.A ns.length R.c) ns.length xs
  b1 : base ≤ R.rb
  b2 : base ≤ R.M
theorem ownBlock_len (A : Option Addr) (n m c : Nat) : (Value.slice A n c).ownBlock = (Value.slice A m c).ownBlock := by cases A <;> rfl
variable {w w' : World} {base : Nat} {t e : TypeId} {sz : Nat} {R : Rm} {ns : List ByteArray} {xs : List Value}
theorem RowAt.lt (h : RowAt w base t e sz R ns xs) {k : Nat} (hk : R.foot k) : k < w.heap.size ∧ base ≤ k := by
  rcases hk with rfl | rfl | hk
  · exact ⟨h.blk.lt, h.b1⟩
  · exact ⟨h.map.lt, h.b2⟩
  · rw [ownBlock_len _ 0 ns.length] at hk
    obtain ⟨h1, h2, _⟩ := own_blk h.row hk
    exact ⟨h1, h2⟩
theorem RowAt.keep {P : Nat → Prop} (h : RowAt w base t e sz R ns xs) (hk : KeepG w w' P) (hp : ∀ k, R.foot k → ¬ P k) : RowAt w' base t e sz R ns xs := by
  have hb : ∀ k, R.foot k → w'.heap[k]? = w.heap[k]? := fun k hf => hk.block k (h.lt hf).1 (hp k hf)
  refine ⟨(hb _ (.inl rfl)).trans h.blk, map_same h.map (hb _ (.inr (.inl rfl))), h.key, h.few, own_same h.row (fun b hv => hb b (.inr (.inr ?_))), h.b1, h.b2⟩
  rw [ownBlock_len _ 0 ns.length]; exact hv
theorem RowAt.below (h : RowAt w base t e sz R ns xs) (hb : Below w.heap.size w w') : RowAt w' base t e sz R ns xs := h.keep (KeepG.of_below hb (fun _ => False)) (fun _ _ h => h)
theorem RowAt.lower {base' : Nat} (h : RowAt w base t e sz R ns xs) (hb : base' ≤ base) : RowAt w base' t e sz R ns xs := ⟨h.blk, h.map, h.key, h.few, own_lowerD h.row hb, Nat.le_trans hb h.b1, Nat.le_trans hb h.b2⟩
end Go.Proofs.YtapjmfgpdkghlaaDoor
