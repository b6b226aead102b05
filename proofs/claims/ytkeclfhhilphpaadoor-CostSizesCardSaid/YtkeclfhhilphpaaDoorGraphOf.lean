/- graph.Of: which entities lead to which: the first loop's round (printed by gen-graphof.py). Conditions: at most 2^20 entities, texts of at most 2^20 bytes; the tables of chars and of utf hold what the text gives them. -/
import Derived.Test.YtkeclfhhilphpaaDoorGraphOfPlain
import Derived.Test.YtkeclfhhilphpaaDoorOwnRows
import Derived.Test.YtkeclfhhilphpaaDoorRegions
import Derived.Deep.LoopGhost
import Derived.Maps.OwnSet
namespace Go.Proofs.YtkeclfhhilphpaaDoor
set_option linter.unusedSimpArgs false
set_option linter.unusedVariables false
open Go.RowKit Go.Maps Go.Proofs.YtkeclfhhilphpaaDoor.GraphPlain Go.Proofs.YtkeclfhhilphpaaDoor.RefPlain
theorem Tryd.infoTxt : (Tryd.prog.info? 9).map (fun i => (i.zero, i.size, i.bytes)) = some (some (.string ⟨#[]⟩), 1, 16) := by kernel_rfl
/-- What holds behind k entities. -/
structure Got (w0 w : World) (l : List Ent) (v5 : Value) (An : Option Addr) (cn : Nat) (m : Nat) (D : DataW Unit) : Prop where
  graph : Box2 w (w0.heap.size + 1) 65 (.slice An (innerN l).length cn) (.slice none 0 0)
  out : Box2 w w0.heap.size 65 (.slice none 0 0) (.slice none 0 0)
  names : w.ownsRow w0.heap.size 9 1 (.slice An (innerN l).length cn) (innerN l).length (txtCells ((innerN l).map Ent.na))
  texts : w.ownsRow w0.heap.size 9 1 v5 (innerN l).length (txtCells ((innerN l).map Ent.tx))
  apart : ∀ g, (Value.slice An (innerN l).length cn).ownBlock = some g → v5.ownBlock ≠ some g
  map : w.ownsMap Tryd.prog 9 (plainElem (H := Unit) Tryd.prog 3) (w0.heap.size + 2) m D
  few : m ≤ l.length
  key : KeyI D ((innerN l).map Ent.na)
  below : Below w0.heap.size w0 w
theorem Got.alloc {w0 w : World} {l : List Ent} {v5 : Value} {An : Option Addr} {cn m : Nat} {D : DataW Unit} (h : Got w0 w l v5 An cn m D) (o : Obj) : Got w0 (w.alloc o) l v5 An cn m D :=
  ⟨h.graph.alloc o, h.out.alloc o, h.names.alloc o, h.texts.alloc o, h.apart, h.map.alloc o, h.few, h.key, h.below.alloc h.below.size o⟩
theorem Got.same {w0 w : World} {l l' : List Ent} {v5 : Value} {An : Option Addr} {cn m : Nat} {D : DataW Unit} (h : Got w0 w l v5 An cn m D) (e : innerN l' = innerN l) (hl : l.length ≤ l'.length) : Got w0 w l' v5 An cn m D := by
  obtain ⟨h1, h2, h3, h4, h5, h6, h7, h8, h9⟩ := h
  exact ⟨by rw [e]; exact h1, h2, by rw [e]; exact h3, by rw [e]; exact h4, by rw [e]; exact h5, h6, Nat.le_trans h7 hl, by rw [e]; exact h8, h9⟩
theorem takeLen {l : List Ent} {k : Nat} : (l.take k).length ≤ (l.take (k + 1)).length := by rw [List.length_take, List.length_take]; omega
/-- Within a round: the rows by themselves, and the boxed entity. -/
structure Mid (w0 : World) (B xb : Nat) (e : Ent) (w : World) (g v u : Value) (n1 n2 : Nat) (xs ys : List Value) (m : Nat) (D : DataW Unit) : Prop where
  graph : Box2 w (B + 1) 65 g (.slice none 0 0)
  out : Box2 w B 65 (.slice none 0 0) (.slice none 0 0)
  names : w.ownsRow B 9 1 v n1 xs
  texts : w.ownsRow B 9 1 u n2 ys
  apart : ∀ g, v.ownBlock = some g → u.ownBlock ≠ some g
  map : w.ownsMap Tryd.prog 9 (plainElem (H := Unit) Tryd.prog 3) (B + 2) m D
  ent : w.heap[xb]? = some (.cells #[.string e.na, .string e.tx, .bool e.out, .string e.pu, .string e.sy, .string e.no] 44 (0, 0))
  below : Below B w0 w
  base : B = w0.heap.size
theorem block_not_row {w : World} {b : Nat} {t e : TypeId} {cs : Array Value} {fz : Nat × Nat} (h : w.heap[b]? = some (.cells cs t fz)) (hte : t ≠ e) {base size k : Nat} {x : Value} {xs : List Value} (hr : w.ownsRow base e size x k xs) : some b ≠ x.ownBlock := by
  rcases hr.2 with ⟨rfl, _⟩ | ⟨g, cap, cur, rfl, _, hh, _⟩
  · intro e; cases e
  · intro e'
    have e' : b = g := by simpa [Value.ownBlock] using e'
    subst e'
    rw [h] at hh
    cases hh; exact hte rfl
theorem apart_kept {v u : Value} (h : ∀ g, v.ownBlock = some g → u.ownBlock ≠ some g) : u.ownBlock = none ∨ u.ownBlock ≠ v.ownBlock := by
  cases hu : u.ownBlock with
  | none => exact .inl rfl
  | some g => exact .inr fun e => h g e.symm hu
theorem apart_sym {v u : Value} (h : ∀ g, v.ownBlock = some g → u.ownBlock ≠ some g) : ∀ g, u.ownBlock = some g → v.ownBlock ≠ some g := fun g hu hv => h g hv hu
theorem apart_next {w : World} {v v' u : Value} (h : ∀ g, v.ownBlock = some g → u.ownBlock ≠ some g) (hu : ∀ g, u.ownBlock = some g → g < w.heap.size) (hv : v'.ownBlock = v.ownBlock ∨ v'.ownBlock = some w.heap.size) : ∀ g, v'.ownBlock = some g → u.ownBlock ≠ some g := by
  intro g hg
  rcases hv with e | e
  · exact h g (e ▸ hg)
  · rw [e] at hg
    cases hg
    intro hx
    exact absurd (hu _ hx) (Nat.lt_irrefl _)
variable {w0 w w' : World} {B xb : Nat} {e : Ent} {g v v' u u' : Value} {n1 n2 n1' n2' : Nat} {xs ys xs' ys' : List Value} {m : Nat} {D : DataW Unit}
theorem Mid.xlt (h : Mid w0 B xb e w g v u n1 n2 xs ys m D) : xb < w.heap.size := (Array.getElem?_eq_some_iff.1 h.ent).1
theorem Mid.sz (h : Mid w0 B xb e w g v u n1 n2 xs ys m D) : B ≤ w.heap.size := by have := h.below.size; have := h.base; omega
theorem Mid.x0 (h : Mid w0 B xb e w g v u n1 n2 xs ys m D) : w.cell? ⟨xb, 0, none⟩ = some (.string e.na) := by rw [Lib.cell_of_heap h.ent]; rfl
theorem Mid.x1 (h : Mid w0 B xb e w g v u n1 n2 xs ys m D) : w.cell? ⟨xb, 1, none⟩ = some (.string e.tx) := by rw [Lib.cell_of_heap h.ent]; rfl
theorem Mid.drew (h : Mid w0 B xb e w g v u n1 n2 xs ys m D) : Mid w0 B xb e w.drew g v u n1 n2 xs ys m D :=
  ⟨h.graph, h.out, h.names, h.texts, h.apart, h.map, h.ent, h.below.trans ⟨rfl, rfl, rfl, Nat.le_refl _, fun _ _ => rfl⟩, h.base⟩
theorem Mid.alloc (h : Mid w0 B xb e w g v u n1 n2 xs ys m D) (o : Obj) : Mid w0 B xb e (w.alloc o) g v u n1 n2 xs ys m D :=
  ⟨h.graph.alloc o, h.out.alloc o, h.names.alloc o, h.texts.alloc o, h.apart, h.map.alloc o, ((World.grownBy_alloc w o none).block xb h.xlt (by simp)).trans h.ent, h.below.alloc h.sz o, h.base⟩
theorem Mid.grow1 (h : Mid w0 B xb e w g v u n1 n2 xs ys m D) (ho : w'.ownsRow B 9 1 v' n1' xs') (hg : w.grownBy w' v.ownBlock) (hb : v'.ownBlock = v.ownBlock ∨ v'.ownBlock = some w.heap.size) : Mid w0 B xb e w' g v' u n1' n2 xs' ys m D :=
  ⟨h.graph.kept hg (h.graph.not_row (by decide) h.names), h.out.kept hg (h.out.not_row (by decide) h.names), ho, h.texts.kept hg (apart_kept h.apart), apart_next h.apart (fun g hg => (h.texts.lt g hg).2) hb, h.map.kept hg (map_not_row h.map h.names), (hg.block xb h.xlt (block_not_row h.ent (by decide) h.names)).trans h.ent, h.below.grown hg h.sz (fun g hg => (h.names.lt g hg).1), h.base⟩
theorem Mid.grow2 (h : Mid w0 B xb e w g v u n1 n2 xs ys m D) (ho : w'.ownsRow B 9 1 u' n2' ys') (hg : w.grownBy w' u.ownBlock) (hb : u'.ownBlock = u.ownBlock ∨ u'.ownBlock = some w.heap.size) : Mid w0 B xb e w' g v u' n1 n2' xs ys' m D :=
  ⟨h.graph.kept hg (h.graph.not_row (by decide) h.texts), h.out.kept hg (h.out.not_row (by decide) h.texts), h.names.kept hg (apart_kept (apart_sym h.apart)), ho, apart_sym (apart_next (apart_sym h.apart) (fun g hg => (h.names.lt g hg).2) hb), h.map.kept hg (map_not_row h.map h.texts), (hg.block xb h.xlt (block_not_row h.ent (by decide) h.texts)).trans h.ent, h.below.grown hg h.sz (fun g hg => (h.texts.lt g hg).1), h.base⟩
theorem Mid.store (h : Mid w0 B xb e w g v u n1 n2 xs ys m D) (g' : Value) (hx : xb ≠ B + 1) : Mid w0 B xb e (w.setCell ⟨B + 1, 0, none⟩ g') g' v u n1 n2 xs ys m D :=
  ⟨h.graph.set0 g', h.out.other (by show B ≠ B + 1; omega) g', h.names.kept (grownBy_setAny w _ g') (.inr (h.graph.not_row (by decide) h.names).symm), h.texts.kept (grownBy_setAny w _ g') (.inr (h.graph.not_row (by decide) h.texts).symm), h.apart, h.map.kept (grownBy_setAny w _ g') (by show some (B + 2) ≠ some (B + 1); simp), (Below.heap_setCell w _ _ xb hx).trans h.ent, h.below.setCell (by show B ≤ B + 1; omega) g', h.base⟩
theorem Mid.mapped {D' : DataW Unit} (h : Mid w0 B xb e w g v u n1 n2 xs ys m D) (hm : w'.ownsMap Tryd.prog 9 (plainElem (H := Unit) Tryd.prog 3) (B + 2) (m + 1) D') (hg : w.grownBy w' (some (B + 2))) : Mid w0 B xb e w' g v u n1 n2 xs ys (m + 1) D' := by
  have hb : ∀ (b : Nat) (cs : Array Value) (t : TypeId) (fz : Nat × Nat), w.heap[b]? = some (.cells cs t fz) → some b ≠ some (B + 2) := fun b cs t fz hb e => by
    obtain ⟨es, clock, h1, _⟩ := h.map
    cases e
    rw [hb] at h1; cases h1
  exact ⟨h.graph.kept hg (hb _ _ _ _ h.graph), h.out.kept hg (hb _ _ _ _ h.out), h.names.kept hg (.inr (map_not_row h.map h.names).symm), h.texts.kept hg (.inr (map_not_row h.map h.texts).symm), h.apart, hm, (hg.block xb h.xlt (hb _ _ _ _ h.ent)).trans h.ent, h.below.grown hg h.sz (fun g e => by cases e; omega), h.base⟩
theorem gotNext {w0 wf : World} {xb : Nat} {e : Ent} {L0 l' : List Ent} {An : Option Addr} {cn : Nat} {u : Value} {N m : Nat} {D : DataW Unit} (h : Mid w0 w0.heap.size xb e wf (.slice An (N + 1) cn) (.slice An (N + 1) cn) u (N + 1) (N + 1) (txtCells (L0.map Ent.na) ++ [.string e.na]) (txtCells (L0.map Ent.tx) ++ [.string e.tx]) (m + 1) D)
    (hi : innerN l' = L0 ++ [e]) (hk : L0.length = N ∧ KeyI D (L0.map Ent.na ++ [e.na])) (hfew : m + 1 ≤ l'.length) : Got w0 wf l' u An cn (m + 1) D := by
  obtain ⟨rfl, hk⟩ := hk
  have hlen : (innerN l').length = L0.length + 1 := by rw [hi]; simp
  have e1 : txtCells ((innerN l').map Ent.na) = txtCells (L0.map Ent.na) ++ [.string e.na] := by rw [hi]; simp [txtCells]
  have e2 : txtCells ((innerN l').map Ent.tx) = txtCells (L0.map Ent.tx) ++ [.string e.tx] := by rw [hi]; simp [txtCells]
  exact ⟨by rw [hlen]; exact h.graph, h.out, by rw [hlen, e1]; exact h.names, by rw [hlen, e2]; exact h.texts, by rw [hlen]; exact h.apart, h.map, hfew, by rw [hi, List.map_append]; exact hk, h.below⟩
def InnerAt (w : World) (B : Nat) (vs : List Value) (G : Gr) : Prop :=
  vs.length = G.length ∧ ∀ i, i < G.length → ∃ A c, vs[i]? = some (.slice A (row G i).length c) ∧ w.ownsRow B 3 1 (.slice A (row G i).length c) (row G i).length (natCells (row G i))
theorem InnerAt.below {w w' : World} {B : Nat} {vs : List Value} {G : Gr} (h : InnerAt w B vs G) (hb : Below w.heap.size w w') : InnerAt w' B vs G :=
  ⟨h.1, fun i hi => by obtain ⟨A, c, h1, h2⟩ := h.2 i hi; exact ⟨A, c, h1, ownB_below h2 hb⟩⟩
theorem InnerAt.kept {w w' : World} {B : Nat} {vs : List Value} {G : Gr} (h : InnerAt w B vs G) {row' : Option Nat} (hg : w.grownBy w' row') (hr : ∀ (b' n : Nat) (v : Value) (xs : List Value), w.ownsRow b' 3 1 v n xs → v.ownBlock = none ∨ v.ownBlock ≠ row') : InnerAt w' B vs G :=
  ⟨h.1, fun i hi => by obtain ⟨A, c, h1, h2⟩ := h.2 i hi; exact ⟨A, c, h1, h2.kept hg (hr _ _ _ _ h2)⟩⟩
theorem InnerAt.snoc {w : World} {B : Nat} {vs : List Value} {G : Gr} (h : InnerAt w B vs G) {A : Option Addr} {c : Nat} {r : List Nat} (hr : w.ownsRow B 3 1 (.slice A r.length c) r.length (natCells r)) : InnerAt w B (vs ++ [.slice A r.length c]) (G ++ [r]) := by
  refine ⟨by rw [List.length_append, List.length_append, h.1]; rfl, fun i hi => ?_⟩
  rw [List.length_append] at hi
  by_cases e : i = G.length
  · subst e
    have e1 : row (G ++ [r]) G.length = r := by unfold row; rw [List.getD_eq_getElem?_getD, List.getElem?_append_right (Nat.le_refl _)]; simp
    refine ⟨A, c, ?_, ?_⟩
    · rw [e1, ← h.1, List.getElem?_append_right (Nat.le_refl _)]; simp
    · rw [e1]; exact hr
  · have hi' : i < G.length := by simp at hi; omega
    obtain ⟨A', c', h1, h2⟩ := h.2 i hi'
    have e1 : row (G ++ [r]) i = row G i := by unfold row; rw [List.getD_eq_getElem?_getD, List.getD_eq_getElem?_getD, List.getElem?_append_left hi']
    refine ⟨A', c', ?_, ?_⟩
    · rw [e1, List.getElem?_append_left (by rw [h.1]; exact hi')]; exact h1
    · rw [e1]; exact h2
structure Got2 (w0 w : World) (l : List Ent) (k : Nat) (A5 : Option Addr) (c5 : Nat) (An : Option Addr) (cn m : Nat) (D : DataW Unit) (At : Option Addr) (ct : Nat) (vs : List Value) : Prop where
  graph : Box2 w (w0.heap.size + 1) 65 (.slice An (innerN l).length cn) (.slice At k ct)
  out : Box2 w w0.heap.size 65 (.slice none 0 0) (.slice none 0 0)
  names : w.ownsRow w0.heap.size 9 1 (.slice An (innerN l).length cn) (innerN l).length (txtCells ((innerN l).map Ent.na))
  texts : w.ownsRow w0.heap.size 9 1 (.slice A5 (innerN l).length c5) (innerN l).length (txtCells ((innerN l).map Ent.tx))
  map : w.ownsMap Tryd.prog 9 (plainElem (H := Unit) Tryd.prog 3) (w0.heap.size + 2) m D
  to : w.ownsRow w0.heap.size 63 1 (.slice At k ct) k vs
  inner : InnerAt w w0.heap.size vs ((entG l).take k)
  below : Below w0.heap.size w0 w
theorem Got2.later {w0 w w' : World} {l : List Ent} {k : Nat} {A5 : Option Addr} {c5 : Nat} {An : Option Addr} {cn m : Nat} {D : DataW Unit} {At : Option Addr} {ct : Nat} {vs : List Value} (h : Got2 w0 w l k A5 c5 An cn m D At ct vs) (hb : Below w.heap.size w w') : Got2 w0 w' l k A5 c5 An cn m D At ct vs :=
  ⟨h.graph.below hb, h.out.below hb, ownB_below h.names hb, ownB_below h.texts hb, map_below h.map hb, ownB_below h.to hb, h.inner.below hb, h.below.trans (hb.mono h.below.size)⟩
theorem Got2.next {w0 w w' : World} {l : List Ent} {k : Nat} {A5 : Option Addr} {c5 : Nat} {An : Option Addr} {cn m : Nat} {D : DataW Unit} {At : Option Addr} {ct : Nat} {vs : List Value} (h : Got2 w0 w l k A5 c5 An cn m D At ct vs) {At' : Option Addr} {ct' : Nat} {Ar : Option Addr} {cr : Nat} {r : List Nat}
    (ho : w'.ownsRow w0.heap.size 63 1 (.slice At' (k + 1) ct') (k + 1) (vs ++ [.slice Ar r.length cr])) (hg : w.grownBy w' (Value.slice At k ct).ownBlock) (hr : w.ownsRow w0.heap.size 3 1 (.slice Ar r.length cr) r.length (natCells r)) (hk : (entG l)[k]? = some r) :
    Got2 w0 (w'.setCell ⟨w0.heap.size + 1, 1, none⟩ (.slice At' (k + 1) ct')) l (k + 1) A5 c5 An cn m D At' ct' (vs ++ [.slice Ar r.length cr]) := by
  have g1 := h.graph.kept hg (h.graph.not_row (by decide) h.to)
  have g2 := h.out.kept hg (h.out.not_row (by decide) h.to)
  have g3 := h.names.kept hg (rows_apart h.names h.to (by decide))
  have g4 := h.texts.kept hg (rows_apart h.texts h.to (by decide))
  have g5 := h.map.kept hg (map_not_row h.map h.to)
  have g6 := (h.inner.kept hg fun _ _ _ _ hx => rows_apart hx h.to (by decide)).snoc (hr.kept hg (rows_apart hr h.to (by decide)))
  have hs := grownBy_setAny w' ⟨w0.heap.size + 1, 1, none⟩ (.slice At' (k + 1) ct')
  refine ⟨g1.set1 _, g2.other (by show w0.heap.size ≠ w0.heap.size + 1; omega) _, g3.kept hs (.inr (g1.not_row (by decide) g3).symm), g4.kept hs (.inr (g1.not_row (by decide) g4).symm), g5.kept hs (by show some (w0.heap.size + 2) ≠ some (w0.heap.size + 1); simp), ho.kept hs (.inr (g1.not_row (by decide) ho).symm), ?_, ?_⟩
  · rw [List.take_add_one, hk]
    exact g6.kept hs fun _ _ _ _ hx => .inr (g1.not_row (by decide) hx).symm
  · exact (h.below.grown hg h.below.size (fun g hg => (h.to.lt g hg).1)).setCell (by show w0.heap.size ≤ w0.heap.size + 1; omega) _
theorem grAt_of {w : World} {B : Nat} {G : Gr} {k : Nat} {At : Option Addr} {ct : Nat} {vs : List Value} (hto : w.ownsRow B 63 1 (.slice At k ct) k vs) (hin : InnerAt w B vs G) (hk : k = G.length) : GrAt w At k (intG G) := by
  refine ⟨by rw [hk]; simp [intG], fun i hi => ?_⟩
  obtain ⟨A, c, h1, h2⟩ := hin.2 i (by omega)
  have hvs : vs[i]? = some (.slice A (row G i).length c) := h1
  rcases hto.2 with ⟨e, e2⟩ | ⟨g, cap, cur, hv, hg, hh, _⟩
  · exact absurd hi (by omega)
  · cases hv
    refine ⟨⟨g, 0, none⟩, A, (row G i).map Int.ofNat, c, rfl, ?_, (hto.lt g rfl).2, ?_, ?_⟩
    · have hi' : i < G.length := by omega
      unfold intG
      rw [List.getElem?_map, List.getElem?_eq_getElem hi']
      unfold row
      rw [List.getD_eq_getElem?_getD, List.getElem?_eq_getElem hi']; rfl
    · rw [List.length_map]; exact hto.cells rfl i _ hvs
    · have e : natCells (row G i) = numCells ((row G i).map Int.ofNat) := by simp [natCells, numCells]
      have := h2
      rw [e] at this
      exact IntsAt.of_own (by rw [List.length_map]; exact this)
theorem Got2.done {w0 w : World} {l : List Ent} {A5 : Option Addr} {c5 : Nat} {An : Option Addr} {cn m : Nat} {D : DataW Unit} {At : Option Addr} {ct : Nat} {vs : List Value} (h : Got2 w0 w l (innerN l).length A5 c5 An cn m D At ct vs) :
    let w' := (w.setCell ⟨w0.heap.size, 0, none⟩ (.slice An (innerN l).length cn)).setCell ⟨w0.heap.size, 1, none⟩ (.slice At (innerN l).length ct)
    Box2 w' w0.heap.size 65 (.slice An (innerN l).length cn) (.slice At (innerN l).length ct) ∧ TsAt w' An (innerN l).length ((innerN l).map Ent.na) ∧ GrAt w' At (innerN l).length (intG (entG l)) ∧ Below w0.heap.size w0 w' := by
  intro w'
  have hl : (entG l).length = (innerN l).length := by simp [entG]
  have hs1 := grownBy_setAny w ⟨w0.heap.size, 0, none⟩ (.slice An (innerN l).length cn)
  have hs2 := grownBy_setAny (w.setCell ⟨w0.heap.size, 0, none⟩ (.slice An (innerN l).length cn)) ⟨w0.heap.size, 1, none⟩ (.slice At (innerN l).length ct)
  have o1 := h.out.set0 (.slice An (innerN l).length cn)
  have keep : ∀ {b n : Nat} {e : TypeId} {v : Value} {xs : List Value}, 65 ≠ e → w.ownsRow b e 1 v n xs → w'.ownsRow b e 1 v n xs := fun he hx => by
    have h1 := hx.kept hs1 (.inr (h.out.not_row he hx).symm)
    exact h1.kept hs2 (.inr (o1.not_row he h1).symm)
  have hin := h.inner
  rw [show (entG l).take (innerN l).length = entG l by rw [← hl, List.take_length]] at hin
  refine ⟨o1.set1 _, ?_, grAt_of (keep (by decide) h.to) ⟨hin.1, fun i hi => ?_⟩ hl.symm, (h.below.setCell (Nat.le_refl _) _).setCell (Nat.le_refl _) _⟩
  · have := keep (by decide) h.names
    have e : (innerN l).length = ((innerN l).map Ent.na).length := by simp
    rw [e] at this ⊢
    exact TsAt.of_own this
  · obtain ⟨A, c, h1, h2⟩ := hin.2 i hi
    exact ⟨A, c, h1, keep (by decide) h2⟩
theorem innerN_sub : ∀ (l : List Ent) (acc : List Ent), ∀ x ∈ l.foldl addE acc, x ∈ acc ∨ x ∈ l := by
  intro l
  induction l with
  | nil => intro acc x h; exact .inl h
  | cons y l ih =>
    intro acc x h
    rcases ih _ x h with h | h
    · unfold addE at h
      split at h
      · exact .inl h
      · rcases List.mem_append.1 h with h | h
        · exact .inl h
        · exact .inr (by rw [List.mem_singleton.1 h]; exact List.mem_cons_self ..)
    · exact .inr (List.mem_cons_of_mem _ h)
theorem innerN_mem {l : List Ent} {x : Ent} (h : x ∈ innerN l) : x ∈ l := by
  rcases innerN_sub l [] x h with h | h
  · cases h
  · exact h
theorem namesOf_size {s y : ByteArray} (h : y ∈ namesOf s) : y.size ≤ s.size := by
  unfold namesOf at h
  obtain ⟨x, hx, rfl⟩ := List.mem_map.1 h
  obtain ⟨pre, rest, e⟩ := List.append_of_mem hx
  have hch := chain_next s pre rest x (by rw [← e]; exact refsN_chain s)
  have z := ext_sz2 s x.a x.b hch.2.2.1
  rw [hch.2.2.2, ByteArray.size_append, ByteArray.size_append] at z
  omega
theorem outN_size {s y : ByteArray} (h : y ∈ outN true (namesOf s)) : y.size ≤ s.size := by
  have h1 : hasT (outN true (namesOf s)) y = true := by unfold hasT; rw [List.any_eq_true]; exact ⟨y, h, by simp⟩
  rw [hasT_out] at h1
  unfold hasT at h1
  obtain ⟨z, hz, e⟩ := List.any_eq_true.1 h1
  rw [← of_decide_eq_true e]
  exact namesOf_size hz
theorem toN_len (ns l : List ByteArray) : (toN ns l).length ≤ l.length := by
  unfold toN; rw [List.length_map]; exact List.length_filter_le _ _
theorem outN_few (s : ByteArray) : (outN true (namesOf s)).length ≤ s.size := by
  have h1 := outN_len true (namesOf s)
  have h2 : (namesOf s).length = (refsN (bsOf s)).length := by simp [namesOf]
  have h3 := refsN_len (bsOf s)
  rw [bsOf_len] at h3
  omega
/-- A graph is handed back, which reads as names and rows. -/
def GrTold (ns : List ByteArray) (G : Gr) (w : World) (e : Ending) (w' : World) : Prop := ∃ An cn At ct, e = .returned (grV An ns.length cn At ns.length ct) ∧ TsAt w' An ns.length ns ∧ GrAt w' At ns.length (intG G) ∧ Below w.heap.size w w'
set_option maxRecDepth 100000 in
set_option maxHeartbeats 16000000 in
theorem of_any (A : Option Addr) (n c : Nat) (l : List Ent) (w : World) (hl : EntsAt w A n l) (hn : n ≤ 1048576) (hs : ∀ e ∈ l, e.na.size ≤ maxLen ∧ e.tx.size ≤ 1048576) (hf : FormsAt w) (ht : Tabs w) :
    Calls Tryd.prog 26 #[.slice A n c] w (GrTold ((innerN l).map Ent.na) (entG l) w) := by
  obtain ⟨i0, hi0, hz0, hz1, hz2⟩ := info_parts Tryd.infoTxt
  have hmm := @run_makeMap Tryd.prog
  have L := Lib.hid hl
  have HS := Lib.hid hs
  have HF := Lib.hid hf
  have HT := Lib.hid ht
  clear hl hs hf ht
  go_enter Tryd.func26, Tryd.ntmps26
  go_wp2
  have G0 : Got w (((w.alloc (Obj.cells #[Value.slice none 0 0, Value.slice none 0 0] 65)).alloc (Obj.cells #[Value.slice none 0 0, Value.slice none 0 0] 65)).alloc (Obj.map #[] 0)) [] (.slice none 0 0) none 0 0 (.map []) := {
    graph := by
      have := (Box2.new (w.alloc (Obj.cells #[Value.slice none 0 0, Value.slice none 0 0] 65)) 65 (.slice none 0 0) (.slice none 0 0)).alloc (Obj.map #[] 0)
      show Box2 _ _ _ (.slice none 0 0) _
      simpa using this
    out := ((Box2.new w 65 (.slice none 0 0) (.slice none 0 0)).alloc _).alloc _
    names := World.ownsRow_nil _ _ _ _
    texts := World.ownsRow_nil _ _ _ _
    apart := fun g h => by cases h
    map := by
      have := World.ownsMap_made (H := Unit) ((w.alloc (Obj.cells #[Value.slice none 0 0, Value.slice none 0 0] 65)).alloc (Obj.cells #[Value.slice none 0 0, Value.slice none 0 0] 65)) Tryd.prog 9 (plainElem (H := Unit) Tryd.prog 3)
      simpa using this
    few := Nat.le_refl _
    key := fun _ => ⟨rfl, rfl⟩
    below := (((Below.refl _ w).alloc (Nat.le_refl _) _).alloc (by simp) _).alloc (by simp; omega) _ }
  clear hmm
  go_loopg [5, 20] n (fun g v5 v20 wr => ∃ k : Nat, g + k = n ∧ v20 = .int .i64 k ∧ ∃ An cn m D, Hid (Got w wr (l.take k) v5 An cn m D))
  case atStart => exact ⟨0, rfl, rfl, none, 0, 0, _, G0⟩
  case round =>
    obtain ⟨k, hgk, rfl, An, cn, m, D, HG⟩ := hrel
    by_cases hlt : k < n
    · obtain ⟨a, e, rfl, hx, he⟩ := L.out.2 k hlt
      have b0 : (0 : Int) ≤ (k : Int) := by omega
      have b1 : (k : Int) < (n : Int) := by omega
      obtain ⟨e0, e1, e2, e3, e4, e5, e6⟩ := he.below HG.out.below
      have HX := Lib.hid (innerN_next hx)
      have hsz := HG.out.below.size
      obtain ⟨hs1, hs2⟩ := HS.out e (List.mem_of_getElem? hx)
      have hkey : keyOf Tryd.prog 9 (.string e.na) = some (.string e.na.data.toList) := WideMaps.keyOf_string_mk Tryd.underlying9 hs1
      have hmap := HG.out.map
      have hkk := HG.out.key e.na
      clear hx he G0
      cases hh : hasT ((innerN (l.take k)).map Ent.na) e.na with
      | true =>
        rw [hh] at hkk
        have hhas := hkk.1
        have HE : Hid (innerN (l.take (k + 1)) = innerN (l.take k)) := by show _ = _; rw [HX.out]; unfold addE; rw [if_pos (.inr hh)]
        clear hkk hh
        go_wp2_with (at_lookup; refine wpList_lookup_own_ok_int _ rfl _ _ 70 rfl 9 3 .i64 lawT Tryd.underlying70 Tryd.underlying3 (zeroT _) (w.heap.size + 1 + 1) m D rfl (hmap.alloc _) _ _ rfl hkey ?_; intro c1 hat hwc)
        go_roundg (gk - 1)
        case measure => omega
        case rel => exact ⟨k + 1, by omega, by go_num, An, cn, m, D, (HG.out.alloc _).same HE.out takeLen⟩
      | false =>
        rw [hh] at hkk
        have hhas := hkk.1
        clear hkk
        cases ho : e.out with
        | true =>
          rw [ho] at e3
          have HE : Hid (innerN (l.take (k + 1)) = innerN (l.take k)) := by show _ = _; rw [HX.out]; unfold addE; rw [if_pos (.inl ho)]
          clear hh ho
          go_wp2_with (at_lookup; refine wpList_lookup_own_ok_int _ rfl _ _ 70 rfl 9 3 .i64 lawT Tryd.underlying70 Tryd.underlying3 (zeroT _) (w.heap.size + 1 + 1) m D rfl (hmap.alloc _) _ _ rfl hkey ?_; intro c1 hat hwc)
          go_roundg (gk - 1)
          case measure => omega
          case rel => exact ⟨k + 1, by omega, by go_num, An, cn, m, D, (HG.out.alloc _).same HE.out takeLen⟩
        | false =>
          rw [ho] at e3
          have HE : Hid (innerN (l.take (k + 1)) = innerN (l.take k) ++ [e]) := by show _ = _; rw [HX.out]; unfold addE; rw [if_neg (by rw [hh, ho]; simp)]
          have HH := Lib.hid hh
          have HO := Lib.hid ho
          clear hh ho
          have g0 := HG.out.graph.cell0
          have hgl := HG.out.graph.lt
          have hnl := innerN_len l k
          have hfew := HG.out.few
          have hfew2 : m + 1 ≤ (l.take (k + 1)).length := by
            have := L.out.1
            rw [List.length_take] at hfew ⊢; omega
          rw [List.length_take] at hfew
          obtain ⟨At0, ct0, rfl⟩ := own_shapeG HG.out.texts
          have HM := Lib.hid ((⟨HG.out.graph.alloc _, HG.out.out.alloc _, HG.out.names.alloc _, HG.out.texts.alloc _, HG.out.apart, HG.out.map.alloc _, by rw [HO.out]; exact World.alloc_heap_new wr _, HG.out.below.alloc hsz _, rfl⟩ : Mid w w.heap.size wr.heap.size e (wr.alloc (.cells #[.string e.na, .string e.tx, .bool false, .string e.pu, .string e.sy, .string e.no] 44)) (.slice An (innerN (l.take k)).length cn) (.slice An (innerN (l.take k)).length cn) (.slice At0 (innerN (l.take k)).length ct0) (innerN (l.take k)).length (innerN (l.take k)).length (txtCells ((innerN (l.take k)).map Ent.na)) (txtCells ((innerN (l.take k)).map Ent.tx)) m D))
          have HK : Hid (KeyI (D.put (.string e.na.data.toList) (.lit (.int .i64 ((innerN (l.take k)).length : Nat)))) ((innerN (l.take k)).map Ent.na ++ [e.na])) := by
            have := KeyI_put HG.out.key hmap.isMap HH.out
            rw [List.length_map] at this
            exact this
          have hxb : wr.heap.size ≠ w.heap.size + 1 := by omega
          have hwf : (Lit.int .i64 ((innerN (l.take k)).length : Int)).wf = true := by
            have h1 := wrap64_wf ((innerN (l.take k)).length : Int)
            rwa [show wrap64 ((innerN (l.take k)).length : Int) = ((innerN (l.take k)).length : Int) from by unfold wrap64; omega] at h1
          generalize innerN (l.take k) = L0 at *
          generalize hN : L0.length = N at *
          have HNN := Lib.hid hN
          clear hN
          go_wp2_with (first | (at_lookup; refine wpList_lookup_own_ok_int _ rfl _ _ 70 rfl 9 3 .i64 lawT Tryd.underlying70 Tryd.underlying3 (zeroT _) (w.heap.size + 1 + 1) m D rfl (hmap.alloc _) _ _ rfl hkey ?_; intro c1 hat hwc) | (at_mapUpdate; refine wpList_mapUpdate_own _ rfl _ _ _ 70 rfl 9 3 lawT Tryd.underlying70 _ (w.heap.size + 1 + 1) m D rfl (hmap.alloc _) (by unfold maxLen; omega) _ _ _ rfl rfl hkey _ [] (plainElem_int Tryd.underlying3 hwf) ?_; intro w1 hown1 hgrow1))
          have H1 := Lib.hid (HM.out.mapped hown1 hgrow1).drew
          clear HM hown1 hgrow1 hmap
          refine wp_region_late [(12, fun w' => w'.cell? ⟨w.heap.size + 1, 0, none⟩ = some (.slice An N cn)), (13, fun w' => w'.cell? ⟨wr.heap.size, 0, none⟩ = some (.string e.na) ∧ w'.cell? ⟨wr.heap.size, 1, none⟩ = some (.string e.tx))] (by kernel_rfl) ⟨.inr H1.out.graph.cell0, .inr ⟨H1.out.x0, H1.out.x1⟩, trivial⟩ (fun hC0 => ?_)
          have H := H1; clear H1
          generalize w1.drew = W0 at *
          clear w1
          refine wpAnyL_pure (i := 0) (oi := ({ dst := some 42, op := Op.fieldAddr 65 (Operand.tmp 3) 0, type := 0, pos := "graph.go:27", after := #[], guard := none } : Oper)) (v := ?_) rfl (by kernel_rfl) (by kernel_rfl) (by kernel_rfl) (by kernel_rfl) (fun _ _ _ h => h) (Or.inl ⟨by rfl, ?_⟩) (by assumption) (by kernel_rfl) ?_
          rotate_left 1
          · intro w hSw; clear hSw; go_simp; try with_reducible rfl
          (try simp only [Act.put, List.setIfInBounds_toArray, List.set_cons_zero, List.set_cons_succ])
          refine wpAnyL_take (i := 1) 0 (oi := ({ dst := some 43, op := Op.load 46 (Operand.tmp 42), type := 46, pos := "graph.go:27", after := #[{ on := 0, ground := Ground.data }], guard := none } : Oper)) (v := ?_) rfl (by kernel_rfl) (by kernel_rfl) (by kernel_rfl) rfl (by kernel_rfl) (by kernel_rfl) (by kernel_rfl) (fun _ _ _ h => h) (Or.inl ⟨by rfl, ?_⟩) (by assumption) (by kernel_rfl) ?_
          rotate_left 1
          · intro w hSw; (try dsimp only at hSw); go_simp; try with_reducible rfl
          (try simp only [Act.put, List.setIfInBounds_toArray, List.set_cons_zero, List.set_cons_succ])
          refine wpAnyL_pure (i := 2) (oi := ({ dst := some 44, op := Op.fieldAddr 44 (Operand.tmp 7) 0, type := 0, pos := "graph.go:27", after := #[], guard := none } : Oper)) (v := ?_) rfl (by kernel_rfl) (by kernel_rfl) (by kernel_rfl) (by kernel_rfl) (fun _ _ _ h => h) (Or.inl ⟨by rfl, ?_⟩) (by assumption) (by kernel_rfl) ?_
          rotate_left 1
          · intro w hSw; clear hSw; go_simp; try with_reducible rfl
          (try simp only [Act.put, List.setIfInBounds_toArray, List.set_cons_zero, List.set_cons_succ])
          refine wpAnyL_take (i := 3) 1 (oi := ({ dst := some 45, op := Op.load 9 (Operand.tmp 44), type := 9, pos := "graph.go:27", after := #[{ on := 2, ground := Ground.data }], guard := none } : Oper)) (v := ?_) rfl (by kernel_rfl) (by kernel_rfl) (by kernel_rfl) rfl (by kernel_rfl) (by kernel_rfl) (by kernel_rfl) (fun _ _ _ h => h) (Or.inl ⟨by rfl, ?_⟩) (by assumption) (by kernel_rfl) ?_
          rotate_left 1
          · intro w hSw; (try dsimp only at hSw); go_simp; try with_reducible rfl
          (try simp only [Act.put, List.setIfInBounds_toArray, List.set_cons_zero, List.set_cons_succ])
          refine wpAnyL_pure (i := 6) (oi := ({ dst := some 48, op := Op.move (Operand.tmp 5), type := 46, pos := "graph.go:27", after := #[], guard := none } : Oper)) (v := ?_) rfl (by kernel_rfl) (by kernel_rfl) (by kernel_rfl) (by kernel_rfl) (fun _ _ _ h => h) (Or.inl ⟨by rfl, ?_⟩) (by assumption) (by kernel_rfl) ?_
          rotate_left 1
          · intro w hSw; clear hSw; go_simp; try with_reducible rfl
          (try simp only [Act.put, List.setIfInBounds_toArray, List.set_cons_zero, List.set_cons_succ])
          refine wpAnyL_pure (i := 7) (oi := ({ dst := some 49, op := Op.fieldAddr 44 (Operand.tmp 7) 1, type := 0, pos := "graph.go:27", after := #[], guard := none } : Oper)) (v := ?_) rfl (by kernel_rfl) (by kernel_rfl) (by kernel_rfl) (by kernel_rfl) (fun _ _ _ h => h) (Or.inl ⟨by rfl, ?_⟩) (by assumption) (by kernel_rfl) ?_
          rotate_left 1
          · intro w hSw; clear hSw; go_simp; try with_reducible rfl
          (try simp only [Act.put, List.setIfInBounds_toArray, List.set_cons_zero, List.set_cons_succ])
          refine wpAnyL_take (i := 8) 1 (oi := ({ dst := some 50, op := Op.load 9 (Operand.tmp 49), type := 9, pos := "graph.go:27", after := #[{ on := 7, ground := Ground.data }], guard := none } : Oper)) (v := ?_) rfl (by kernel_rfl) (by kernel_rfl) (by kernel_rfl) rfl (by kernel_rfl) (by kernel_rfl) (by kernel_rfl) (fun _ _ _ h => h) (Or.inl ⟨by rfl, ?_⟩) (by assumption) (by kernel_rfl) ?_
          rotate_left 1
          · intro w hSw; (try dsimp only at hSw); go_simp; try with_reducible rfl
          (try simp only [Act.put, List.setIfInBounds_toArray, List.set_cons_zero, List.set_cons_succ])
          refine wpAnyL_ready (rs := [4, 9]) (by kernel_rfl) (by simp) ?_
          refine AllReadyL.cons (o := _) rfl (fun K hK => ?_) (AllReadyL.cons (o := _) rfl (fun K hK => ?_) AllReadyL.nil)
          · go_simp
            have H4 := Lib.hid (H.out.alloc (.cells #[.string e.na] 9))
            have B4 := Lib.hid (Boxed.new W0 9 (.string e.na))
            have NE4 := Lib.hid (rowLt H.out.names (Nat.le_refl W0.heap.size))
            clear H hC0; have H := H4; clear H4
            generalize W0.alloc (.cells #[.string e.na] 9) = W4 at *
            generalize W0.heap.size = b4 at *
            refine hK.out _ _ ⟨.inr H.out.graph.cell0, .inr ⟨H.out.x0, H.out.x1⟩, trivial⟩ (fun hC0 => ?_)
            clear hK K
            (try simp only [Act.put, List.setIfInBounds_toArray, List.set_cons_zero, List.set_cons_succ])
            refine wpAnyL_ready (rs := [5, 9]) (by kernel_rfl) (by simp) ?_
            refine AllReadyL.cons (o := _) rfl (fun K hK => ?_) (AllReadyL.cons (o := _) rfl (fun K hK => ?_) AllReadyL.nil)
            · refine stepOwn (by rfl) (.tmp 43) (.tmp 46) 46 (by rfl) w.heap.size 9 i0 (.string ⟨#[]⟩) 16 Tryd.underlying46 hi0 hz0 hz1 hz2 (by rfl) (.slice An N cn) N (txtCells (L0.map Ent.na)) (by rfl) H.out.names ⟨b4, 0, none⟩ 1 1 [.string e.na] (by rfl) rfl (boxedCells B4.out) (by simp [Value.oneCell']) (by unfold maxLen; omega) (by omega) H.out.sz ?_
              intro v5 W5 hown hgrow hblk
              obtain ⟨A5, c5, rfl⟩ := own_shapeG hown
              have H5 := Lib.hid (H.out.grow1 hown hgrow hblk)
              clear H hC0 hown hgrow hblk; have H := H5; clear H5
              refine hK.out _ _ ⟨.inr H.out.graph.cell0, .inr ⟨H.out.x0, H.out.x1⟩, trivial⟩ (fun hC0 => ?_)
              clear hK K
              (try simp only [Act.put, List.setIfInBounds_toArray, List.set_cons_zero, List.set_cons_succ])
              refine wpAnyL_pure (i := 11) (oi := ({ dst := some 53, op := Op.fieldAddr 65 (Operand.tmp 3) 0, type := 0, pos := "graph.go:27", after := #[{ on := 0, ground := Ground.phase }, { on := 1, ground := Ground.phase }, { on := 2, ground := Ground.phase }, { on := 3, ground := Ground.phase }, { on := 4, ground := Ground.phase }, { on := 5, ground := Ground.phase }, { on := 6, ground := Ground.textOnly Departure.lateStores }, { on := 7, ground := Ground.textOnly Departure.lateStores }, { on := 8, ground := Ground.textOnly Departure.lateStores }, { on := 9, ground := Ground.textOnly Departure.lateStores }, { on := 10, ground := Ground.textOnly Departure.lateStoresUnsure }], guard := none } : Oper)) (v := ?_) rfl (by kernel_rfl) (by kernel_rfl) (by kernel_rfl) (by kernel_rfl) (fun _ _ _ h => h) (Or.inl ⟨by rfl, ?_⟩) (by assumption) (by kernel_rfl) ?_
              rotate_left 1
              · intro w hSw; clear hSw; go_simp; try with_reducible rfl
              (try simp only [Act.put, List.setIfInBounds_toArray, List.set_cons_zero, List.set_cons_succ])
              refine wpAnyL_ready (rs := [9]) (by kernel_rfl) (by simp) ?_
              refine AllReadyL.cons (o := _) rfl (fun K hK => ?_) AllReadyL.nil
              go_simp
              have H9 := Lib.hid (H.out.alloc (.cells #[.string e.tx] 9))
              have B9 := Lib.hid (Boxed.new W5 9 (.string e.tx))
              have NE9 := Lib.hid (rowLt H.out.names (Nat.le_refl W5.heap.size))
              have B4 := Lib.hid (B4.out.alloc (.cells #[.string e.tx] 9))
              clear H hC0; have H := H9; clear H9
              generalize W5.alloc (.cells #[.string e.tx] 9) = W9 at *
              generalize W5.heap.size = b9 at *
              refine hK.out _ _ ⟨.inr H.out.graph.cell0, .inr ⟨H.out.x0, H.out.x1⟩, trivial⟩ (fun hC0 => ?_)
              clear hK K
              (try simp only [Act.put, List.setIfInBounds_toArray, List.set_cons_zero, List.set_cons_succ])
              refine wpAnyL_ready (rs := [10]) (by kernel_rfl) (by simp) ?_
              refine AllReadyL.cons (o := _) rfl (fun K hK => ?_) AllReadyL.nil
              refine stepOwn (by rfl) (.tmp 48) (.tmp 51) 46 (by rfl) w.heap.size 9 i0 (.string ⟨#[]⟩) 16 Tryd.underlying46 hi0 hz0 hz1 hz2 (by rfl) (.slice At0 N ct0) N (txtCells (L0.map Ent.tx)) (by rfl) H.out.texts ⟨b9, 0, none⟩ 1 1 [.string e.tx] (by rfl) rfl (boxedCells B9.out) (by simp [Value.oneCell']) (by unfold maxLen; omega) (by omega) H.out.sz ?_
              intro v10 W10 hown hgrow hblk
              obtain ⟨A10, c10, rfl⟩ := own_shapeG hown
              have H10 := Lib.hid (H.out.grow2 hown hgrow hblk)
              clear H hC0 hown hgrow hblk; have H := H10; clear H10
              refine hK.out _ _ ⟨.inr H.out.graph.cell0, .inr ⟨H.out.x0, H.out.x1⟩, trivial⟩ (fun hC0 => ?_)
              clear hK K
              (try simp only [Act.put, List.setIfInBounds_toArray, List.set_cons_zero, List.set_cons_succ])
              have gc := H.out.graph.cell0
              have gf := H.out.graph.frozen0
              refine wpAnyL_ready (rs := [12]) (by kernel_rfl) (by simp) ?_
              refine AllReadyL.cons (o := _) rfl (fun K hK => ?_) AllReadyL.nil
              go_simp
              have H12 := Lib.hid (H.out.store (.slice A5 (N + 1) c5) hxb)
              clear H hC0 gc gf; have H := H12; clear H12
              refine hK.out _ _ ⟨.inl (by kernel_rfl), .inr ⟨H.out.x0, H.out.x1⟩, trivial⟩ (fun hC0 => ?_)
              clear hK K
              (try simp only [Act.put, List.setIfInBounds_toArray, List.set_cons_zero, List.set_cons_succ])
              refine wpAnyL_ready (rs := [13]) (by kernel_rfl) (by simp) ?_
              refine AllReadyL.cons (o := _) rfl (fun K hK => ?_) AllReadyL.nil
              go_simp
              refine hK.out _ _ ⟨.inl (by kernel_rfl), .inl (by kernel_rfl), trivial⟩ (fun hC0 => ?_)
              clear hK K
              (try simp only [Act.put, List.setIfInBounds_toArray, List.set_cons_zero, List.set_cons_succ])
              refine wpAnyL_done (by kernel_rfl) ?_ _
              have GE := Lib.hid (gotNext (l' := l.take (k + 1)) H.out HE.out ⟨HNN.out, HK.out⟩ hfew2)
              clear H hC0
              generalize W10.setCell ⟨w.heap.size + 1, 0, none⟩ (.slice A5 (N + 1) c5) = WE at *
              go_wp2
              go_roundg (gk - 1)
              case measure => omega
              case rel => exact ⟨k + 1, by omega, by go_num, A5, c5, m + 1, _, GE⟩
            · go_simp
              have H9 := Lib.hid (H.out.alloc (.cells #[.string e.tx] 9))
              have B9 := Lib.hid (Boxed.new W4 9 (.string e.tx))
              have NE9 := Lib.hid (rowLt H.out.names (Nat.le_refl W4.heap.size))
              have B4 := Lib.hid (B4.out.alloc (.cells #[.string e.tx] 9))
              clear H hC0; have H := H9; clear H9
              generalize W4.alloc (.cells #[.string e.tx] 9) = W9 at *
              generalize W4.heap.size = b9 at *
              refine hK.out _ _ ⟨.inr H.out.graph.cell0, .inr ⟨H.out.x0, H.out.x1⟩, trivial⟩ (fun hC0 => ?_)
              clear hK K
              (try simp only [Act.put, List.setIfInBounds_toArray, List.set_cons_zero, List.set_cons_succ])
              refine wpAnyL_ready (rs := [5]) (by kernel_rfl) (by simp) ?_
              refine AllReadyL.cons (o := _) rfl (fun K hK => ?_) AllReadyL.nil
              refine stepOwn (by rfl) (.tmp 43) (.tmp 46) 46 (by rfl) w.heap.size 9 i0 (.string ⟨#[]⟩) 16 Tryd.underlying46 hi0 hz0 hz1 hz2 (by rfl) (.slice An N cn) N (txtCells (L0.map Ent.na)) (by rfl) H.out.names ⟨b4, 0, none⟩ 1 1 [.string e.na] (by rfl) rfl (boxedCells B4.out) (by simp [Value.oneCell']) (by unfold maxLen; omega) (by omega) H.out.sz ?_
              intro v5 W5 hown hgrow hblk
              obtain ⟨A5, c5, rfl⟩ := own_shapeG hown
              have H5 := Lib.hid (H.out.grow1 hown hgrow hblk)
              have B9 := Lib.hid (B9.out.kept hgrow NE9.out)
              clear H hC0 hown hgrow hblk; have H := H5; clear H5
              refine hK.out _ _ ⟨.inr H.out.graph.cell0, .inr ⟨H.out.x0, H.out.x1⟩, trivial⟩ (fun hC0 => ?_)
              clear hK K
              (try simp only [Act.put, List.setIfInBounds_toArray, List.set_cons_zero, List.set_cons_succ])
              refine wpAnyL_pure (i := 11) (oi := ({ dst := some 53, op := Op.fieldAddr 65 (Operand.tmp 3) 0, type := 0, pos := "graph.go:27", after := #[{ on := 0, ground := Ground.phase }, { on := 1, ground := Ground.phase }, { on := 2, ground := Ground.phase }, { on := 3, ground := Ground.phase }, { on := 4, ground := Ground.phase }, { on := 5, ground := Ground.phase }, { on := 6, ground := Ground.textOnly Departure.lateStores }, { on := 7, ground := Ground.textOnly Departure.lateStores }, { on := 8, ground := Ground.textOnly Departure.lateStores }, { on := 9, ground := Ground.textOnly Departure.lateStores }, { on := 10, ground := Ground.textOnly Departure.lateStoresUnsure }], guard := none } : Oper)) (v := ?_) rfl (by kernel_rfl) (by kernel_rfl) (by kernel_rfl) (by kernel_rfl) (fun _ _ _ h => h) (Or.inl ⟨by rfl, ?_⟩) (by assumption) (by kernel_rfl) ?_
              rotate_left 1
              · intro w hSw; clear hSw; go_simp; try with_reducible rfl
              (try simp only [Act.put, List.setIfInBounds_toArray, List.set_cons_zero, List.set_cons_succ])
              refine wpAnyL_ready (rs := [10]) (by kernel_rfl) (by simp) ?_
              refine AllReadyL.cons (o := _) rfl (fun K hK => ?_) AllReadyL.nil
              refine stepOwn (by rfl) (.tmp 48) (.tmp 51) 46 (by rfl) w.heap.size 9 i0 (.string ⟨#[]⟩) 16 Tryd.underlying46 hi0 hz0 hz1 hz2 (by rfl) (.slice At0 N ct0) N (txtCells (L0.map Ent.tx)) (by rfl) H.out.texts ⟨b9, 0, none⟩ 1 1 [.string e.tx] (by rfl) rfl (boxedCells B9.out) (by simp [Value.oneCell']) (by unfold maxLen; omega) (by omega) H.out.sz ?_
              intro v10 W10 hown hgrow hblk
              obtain ⟨A10, c10, rfl⟩ := own_shapeG hown
              have H10 := Lib.hid (H.out.grow2 hown hgrow hblk)
              clear H hC0 hown hgrow hblk; have H := H10; clear H10
              refine hK.out _ _ ⟨.inr H.out.graph.cell0, .inr ⟨H.out.x0, H.out.x1⟩, trivial⟩ (fun hC0 => ?_)
              clear hK K
              (try simp only [Act.put, List.setIfInBounds_toArray, List.set_cons_zero, List.set_cons_succ])
              have gc := H.out.graph.cell0
              have gf := H.out.graph.frozen0
              refine wpAnyL_ready (rs := [12]) (by kernel_rfl) (by simp) ?_
              refine AllReadyL.cons (o := _) rfl (fun K hK => ?_) AllReadyL.nil
              go_simp
              have H12 := Lib.hid (H.out.store (.slice A5 (N + 1) c5) hxb)
              clear H hC0 gc gf; have H := H12; clear H12
              refine hK.out _ _ ⟨.inl (by kernel_rfl), .inr ⟨H.out.x0, H.out.x1⟩, trivial⟩ (fun hC0 => ?_)
              clear hK K
              (try simp only [Act.put, List.setIfInBounds_toArray, List.set_cons_zero, List.set_cons_succ])
              refine wpAnyL_ready (rs := [13]) (by kernel_rfl) (by simp) ?_
              refine AllReadyL.cons (o := _) rfl (fun K hK => ?_) AllReadyL.nil
              go_simp
              refine hK.out _ _ ⟨.inl (by kernel_rfl), .inl (by kernel_rfl), trivial⟩ (fun hC0 => ?_)
              clear hK K
              (try simp only [Act.put, List.setIfInBounds_toArray, List.set_cons_zero, List.set_cons_succ])
              refine wpAnyL_done (by kernel_rfl) ?_ _
              have GE := Lib.hid (gotNext (l' := l.take (k + 1)) H.out HE.out ⟨HNN.out, HK.out⟩ hfew2)
              clear H hC0
              generalize W10.setCell ⟨w.heap.size + 1, 0, none⟩ (.slice A5 (N + 1) c5) = WE at *
              go_wp2
              go_roundg (gk - 1)
              case measure => omega
              case rel => exact ⟨k + 1, by omega, by go_num, A5, c5, m + 1, _, GE⟩
          · go_simp
            have H9 := Lib.hid (H.out.alloc (.cells #[.string e.tx] 9))
            have B9 := Lib.hid (Boxed.new W0 9 (.string e.tx))
            have NE9 := Lib.hid (rowLt H.out.names (Nat.le_refl W0.heap.size))
            clear H hC0; have H := H9; clear H9
            generalize W0.alloc (.cells #[.string e.tx] 9) = W9 at *
            generalize W0.heap.size = b9 at *
            refine hK.out _ _ ⟨.inr H.out.graph.cell0, .inr ⟨H.out.x0, H.out.x1⟩, trivial⟩ (fun hC0 => ?_)
            clear hK K
            (try simp only [Act.put, List.setIfInBounds_toArray, List.set_cons_zero, List.set_cons_succ])
            refine wpAnyL_ready (rs := [4]) (by kernel_rfl) (by simp) ?_
            refine AllReadyL.cons (o := _) rfl (fun K hK => ?_) AllReadyL.nil
            go_simp
            have H4 := Lib.hid (H.out.alloc (.cells #[.string e.na] 9))
            have B4 := Lib.hid (Boxed.new W9 9 (.string e.na))
            have NE4 := Lib.hid (rowLt H.out.names (Nat.le_refl W9.heap.size))
            have B9 := Lib.hid (B9.out.alloc (.cells #[.string e.na] 9))
            clear H hC0; have H := H4; clear H4
            generalize W9.alloc (.cells #[.string e.na] 9) = W4 at *
            generalize W9.heap.size = b4 at *
            refine hK.out _ _ ⟨.inr H.out.graph.cell0, .inr ⟨H.out.x0, H.out.x1⟩, trivial⟩ (fun hC0 => ?_)
            clear hK K
            (try simp only [Act.put, List.setIfInBounds_toArray, List.set_cons_zero, List.set_cons_succ])
            refine wpAnyL_ready (rs := [5]) (by kernel_rfl) (by simp) ?_
            refine AllReadyL.cons (o := _) rfl (fun K hK => ?_) AllReadyL.nil
            refine stepOwn (by rfl) (.tmp 43) (.tmp 46) 46 (by rfl) w.heap.size 9 i0 (.string ⟨#[]⟩) 16 Tryd.underlying46 hi0 hz0 hz1 hz2 (by rfl) (.slice An N cn) N (txtCells (L0.map Ent.na)) (by rfl) H.out.names ⟨b4, 0, none⟩ 1 1 [.string e.na] (by rfl) rfl (boxedCells B4.out) (by simp [Value.oneCell']) (by unfold maxLen; omega) (by omega) H.out.sz ?_
            intro v5 W5 hown hgrow hblk
            obtain ⟨A5, c5, rfl⟩ := own_shapeG hown
            have H5 := Lib.hid (H.out.grow1 hown hgrow hblk)
            have B9 := Lib.hid (B9.out.kept hgrow NE9.out)
            clear H hC0 hown hgrow hblk; have H := H5; clear H5
            refine hK.out _ _ ⟨.inr H.out.graph.cell0, .inr ⟨H.out.x0, H.out.x1⟩, trivial⟩ (fun hC0 => ?_)
            clear hK K
            (try simp only [Act.put, List.setIfInBounds_toArray, List.set_cons_zero, List.set_cons_succ])
            refine wpAnyL_pure (i := 11) (oi := ({ dst := some 53, op := Op.fieldAddr 65 (Operand.tmp 3) 0, type := 0, pos := "graph.go:27", after := #[{ on := 0, ground := Ground.phase }, { on := 1, ground := Ground.phase }, { on := 2, ground := Ground.phase }, { on := 3, ground := Ground.phase }, { on := 4, ground := Ground.phase }, { on := 5, ground := Ground.phase }, { on := 6, ground := Ground.textOnly Departure.lateStores }, { on := 7, ground := Ground.textOnly Departure.lateStores }, { on := 8, ground := Ground.textOnly Departure.lateStores }, { on := 9, ground := Ground.textOnly Departure.lateStores }, { on := 10, ground := Ground.textOnly Departure.lateStoresUnsure }], guard := none } : Oper)) (v := ?_) rfl (by kernel_rfl) (by kernel_rfl) (by kernel_rfl) (by kernel_rfl) (fun _ _ _ h => h) (Or.inl ⟨by rfl, ?_⟩) (by assumption) (by kernel_rfl) ?_
            rotate_left 1
            · intro w hSw; clear hSw; go_simp; try with_reducible rfl
            (try simp only [Act.put, List.setIfInBounds_toArray, List.set_cons_zero, List.set_cons_succ])
            refine wpAnyL_ready (rs := [10]) (by kernel_rfl) (by simp) ?_
            refine AllReadyL.cons (o := _) rfl (fun K hK => ?_) AllReadyL.nil
            refine stepOwn (by rfl) (.tmp 48) (.tmp 51) 46 (by rfl) w.heap.size 9 i0 (.string ⟨#[]⟩) 16 Tryd.underlying46 hi0 hz0 hz1 hz2 (by rfl) (.slice At0 N ct0) N (txtCells (L0.map Ent.tx)) (by rfl) H.out.texts ⟨b9, 0, none⟩ 1 1 [.string e.tx] (by rfl) rfl (boxedCells B9.out) (by simp [Value.oneCell']) (by unfold maxLen; omega) (by omega) H.out.sz ?_
            intro v10 W10 hown hgrow hblk
            obtain ⟨A10, c10, rfl⟩ := own_shapeG hown
            have H10 := Lib.hid (H.out.grow2 hown hgrow hblk)
            clear H hC0 hown hgrow hblk; have H := H10; clear H10
            refine hK.out _ _ ⟨.inr H.out.graph.cell0, .inr ⟨H.out.x0, H.out.x1⟩, trivial⟩ (fun hC0 => ?_)
            clear hK K
            (try simp only [Act.put, List.setIfInBounds_toArray, List.set_cons_zero, List.set_cons_succ])
            have gc := H.out.graph.cell0
            have gf := H.out.graph.frozen0
            refine wpAnyL_ready (rs := [12]) (by kernel_rfl) (by simp) ?_
            refine AllReadyL.cons (o := _) rfl (fun K hK => ?_) AllReadyL.nil
            go_simp
            have H12 := Lib.hid (H.out.store (.slice A5 (N + 1) c5) hxb)
            clear H hC0 gc gf; have H := H12; clear H12
            refine hK.out _ _ ⟨.inl (by kernel_rfl), .inr ⟨H.out.x0, H.out.x1⟩, trivial⟩ (fun hC0 => ?_)
            clear hK K
            (try simp only [Act.put, List.setIfInBounds_toArray, List.set_cons_zero, List.set_cons_succ])
            refine wpAnyL_ready (rs := [13]) (by kernel_rfl) (by simp) ?_
            refine AllReadyL.cons (o := _) rfl (fun K hK => ?_) AllReadyL.nil
            go_simp
            refine hK.out _ _ ⟨.inl (by kernel_rfl), .inl (by kernel_rfl), trivial⟩ (fun hC0 => ?_)
            clear hK K
            (try simp only [Act.put, List.setIfInBounds_toArray, List.set_cons_zero, List.set_cons_succ])
            refine wpAnyL_done (by kernel_rfl) ?_ _
            have GE := Lib.hid (gotNext (l' := l.take (k + 1)) H.out HE.out ⟨HNN.out, HK.out⟩ hfew2)
            clear H hC0
            generalize W10.setCell ⟨w.heap.size + 1, 0, none⟩ (.slice A5 (N + 1) c5) = WE at *
            go_wp2
            go_roundg (gk - 1)
            case measure => omega
            case rel => exact ⟨k + 1, by omega, by go_num, A5, c5, m + 1, _, GE⟩
    · obtain rfl : k = n := by omega
      have HGL := Lib.hid (show Got w wr l _ An cn m D by have := HG.out; rwa [List.take_of_length_le (by rw [L.out.1]; exact Nat.le_refl _)] at this)
      clear HG
      obtain ⟨A5, c5, rfl⟩ := own_shapeG HGL.out.texts
      have HKEY := Lib.hid HGL.out.key
      have HLN : Hid ((entG l).length = (innerN l).length) := by show _ = _; simp [entG]
      have hNk : (innerN l).length ≤ k := by have := innerN_len l k; rwa [List.take_of_length_le (by rw [L.out.1]; exact Nat.le_refl _)] at this
      have G2 : Hid (Got2 w wr l 0 A5 c5 An cn m D none 0 []) := ⟨HGL.out.graph, HGL.out.out, HGL.out.names, HGL.out.texts, HGL.out.map, World.ownsRow_nil _ _ _ _, ⟨by simp, fun i hi => by simp at hi⟩, HGL.out.below⟩
      obtain ⟨j0, hj0, hj1, hj2, hj3⟩ := info_parts Tryd.infoInt
      obtain ⟨r0, hr0, hr1, hr2, hr3⟩ := info_parts Tryd.infoRow
      clear HGL
      go_wp2_with fail
      go_loopg [57] (innerN l).length (fun g v57 wr2 => ∃ j : Nat, g + j = (innerN l).length ∧ v57 = .int .i64 j ∧ ∃ At ct vs, Hid (Got2 w wr2 l j A5 c5 An cn m D At ct vs))
      case atStart => exact ⟨0, rfl, rfl, none, 0, _, G2⟩
      case round =>
        obtain ⟨j, hgj, rfl, At, ct, vs, HG2⟩ := hrel
        by_cases hlj : j < (innerN l).length
        · have b0 : (0 : Int) ≤ (j : Int) := by omega
          have b1 : (j : Int) < ((innerN l).length : Int) := by omega
          have hT := HG2.out.texts
          have eT : (innerN l).length = ((innerN l).map Ent.tx).length := by simp
          rw [eT] at hT
          obtain ⟨a, s, ha, hx, _, g0⟩ := (TsAt.of_own hT).2 j (by rw [← eT]; exact hlj)
          subst ha
          obtain ⟨x, hx1, rfl⟩ : ∃ x, (innerN l)[j]? = some x ∧ x.tx = s := by
            rw [List.getElem?_map] at hx
            cases hx' : (innerN l)[j]? with
            | none => rw [hx'] at hx; cases hx
            | some x => rw [hx'] at hx; exact ⟨x, rfl, by simpa using hx⟩
          have hxs := HS.out x (innerN_mem (List.mem_of_getElem? hx1))
          have HE : Hid ((entG l)[j]? = some (toN ((innerN l).map Ent.na) (outN true (namesOf x.tx)))) := by
            show _ = _
            unfold entG; rw [List.getElem?_map, hx1]; rfl
          have C := Lib.hid (refOnce_any x.tx wr hxs.2 (HF.out.below HG2.out.below HF.out.size) (HT.out.below HG2.out.below HT.out.size))
          clear hT eT hx hx1
          go_wp2_with fail
          refine C.out.mono ?_
          rintro e w2 ⟨A2, c2, rfl, hts, hB2⟩
          have HT2 := Lib.hid hts
          have H2 := Lib.hid (HG2.out.later hB2)
          have hys := outN_few x.tx
          have hsz2 := H2.out.below.size
          have HYS : Hid (∀ y ∈ outN true (namesOf x.tx), y.size ≤ maxLen) := fun y hy => Nat.le_trans (outN_size hy) (by unfold maxLen; omega)
          clear C hts hB2 HG2 g0
          generalize outN true (namesOf x.tx) = ys at *
          go_wp2_with fail
          obtain ⟨go, hgo⟩ : ∃ go, go = gk := ⟨_, rfl⟩
          rw [← hgo] at hgj
          have R0 : Hid (w2.ownsRow w2.heap.size 3 1 (.slice none 0 0) (toN ((innerN l).map Ent.na) (ys.take 0)).length (natCells (toN ((innerN l).map Ent.na) (ys.take 0)))) := World.ownsRow_nil _ _ _ _
          go_loopg [12, 64] ys.length (fun g v12 v64 wr' => ∃ i : Nat, g + i = ys.length ∧ v64 = .int .i64 i ∧ Hid (Below w2.heap.size w2 wr') ∧ Hid (wr'.ownsRow w2.heap.size 3 1 v12 (toN ((innerN l).map Ent.na) (ys.take i)).length (natCells (toN ((innerN l).map Ent.na) (ys.take i)))))
          case atStart => exact ⟨0, rfl, rfl, Below.refl _ _, R0⟩
          case round =>
            obtain ⟨i, hgi, rfl, HW, HR⟩ := hrel
            by_cases hli : i < ys.length
            · obtain ⟨b, y, hb, hy, hbb, y0⟩ := HT2.out.2 i hli
              subst hb
              have b2 : (0 : Int) ≤ (i : Int) := by omega
              have b3 : (i : Int) < (ys.length : Int) := by omega
              have y1 := (HW.out.cell (p := b.add i) (by rw [addBlockT]; exact hbb)).trans y0
              have hkey : keyOf Tryd.prog 9 (.string y) = some (.string y.data.toList) := WideMaps.keyOf_string_mk Tryd.underlying9 (HYS.out y (List.mem_of_getElem? hy))
              have hmap := map_below H2.out.map HW.out
              have hkk := HKEY.out y
              have HN := Lib.hid (toN_next (ns := (innerN l).map Ent.na) hy)
              clear hy y0
              cases hh : hasT ((innerN l).map Ent.na) y with
              | true =>
                rw [hh] at hkk
                have hhas := hkk.1
                have HA := Lib.hid hkk.2
                have HN2 := Lib.hid (show toN ((innerN l).map Ent.na) (ys.take (i + 1)) = toN ((innerN l).map Ent.na) (ys.take i) ++ [idxT ((innerN l).map Ent.na) y] by rw [HN.out, if_pos hh])
                clear hkk hh
                obtain ⟨A12, c12, rfl⟩ := own_shapeG HR.out
                have hlen := toN_len ((innerN l).map Ent.na) (ys.take i)
                rw [List.length_take] at hlen
                generalize toN ((innerN l).map Ent.na) (ys.take i) = ts at *
                go_wp2_with (first | (at_lookup; refine wpList_lookup_own_ok_int _ rfl _ _ 70 rfl 9 3 .i64 lawT Tryd.underlying70 Tryd.underlying3 (zeroT _) (w.heap.size + 1 + 1) m D rfl hmap _ _ rfl hkey ?_; intro c1 hat hwc; obtain rfl : ((idxT ((innerN l).map Ent.na) y : Nat) : Int) = c1 := (by rw [HA.out] at hat; exact litInt hat); clear hat hwc) | (at_builtin; refine wpList_append_own _ rfl _ _ 63 rfl w2.heap.size 3 j0 (.int .i64 0) 1 8 Tryd.underlying63 hj0 hj1 hj2 hj3 rfl (by decide) _ _ _ rfl (HR.out.alloc _) ⟨_, 0, none⟩ 1 1 [.int .i64 (idxT ((innerN l).map Ent.na) y)] rfl rfl ?c1 ?c2 ?c3 ?c4 ?c5 ?_))
                case c1 => exact oneCellG wr _ _
                case c2 => intro u hu; simp at hu; subst hu; rfl
                case c3 => unfold maxLen; omega
                case c4 => omega
                case c5 => have := HW.out.size; simp; omega
                intro v' w3 hown' hgrow _
                have HR3 := Lib.hid hown'
                have HW3 := Lib.hid ((HW.out.alloc HW.out.size (.cells #[.int .i64 (idxT ((innerN l).map Ent.na) y)] 3)).grown hgrow (by have := HW.out.size; simp; omega) (fun g h => (HR.out.lt g h).1))
                clear hown' hgrow
                go_wp2
                go_roundg (gk - 1)
                case measure => omega
                case rel => exact ⟨i + 1, by omega, by go_num, HW3, by rw [HN2.out, natCells_snoc, List.length_append]; exact HR3.out⟩
              | false =>
                rw [hh] at hkk
                have hhas := hkk.1
                have HR2 := Lib.hid (show wr.ownsRow w2.heap.size 3 1 _ (toN ((innerN l).map Ent.na) (ys.take (i + 1))).length (natCells (toN ((innerN l).map Ent.na) (ys.take (i + 1)))) by rw [HN.out, if_neg (by rw [hh]; decide)]; exact HR.out)
                clear hkk hh
                go_wp2_with (at_lookup; refine wpList_lookup_own_ok_int _ rfl _ _ 70 rfl 9 3 .i64 lawT Tryd.underlying70 Tryd.underlying3 (zeroT _) (w.heap.size + 1 + 1) m D rfl hmap _ _ rfl hkey ?_; intro c1 hat hwc)
                go_roundg (gk - 1)
                case measure => omega
                case rel => exact ⟨i + 1, by omega, by go_num, HW, HR2⟩
            · obtain rfl : i = ys.length := by omega
              obtain ⟨A12, c12, rfl⟩ := own_shapeG HR.out
              have H3 := Lib.hid (H2.out.later HW.out)
              rw [List.take_length] at HR ⊢
              have hlen := toN_len ((innerN l).map Ent.na) ys
              generalize toN ((innerN l).map Ent.na) ys = r at *
              have hW := HW.out.size
              have HR4 := Lib.hid ((own_lowerG HR.out (show w.heap.size ≤ w2.heap.size by omega)).alloc (.cells #[.slice A12 r.length c12] 63))
              have H4 := Lib.hid (H3.out.later ((Below.refl _ wr).alloc (Nat.le_refl _) (.cells #[.slice A12 r.length c12] 63)))
              have k1 := H3.out.graph.cell1
              have kl := H3.out.graph.lt
              have hto := H4.out.to
              have hjN : j < 1048576 := by omega
              go_wp2_with (at_builtin; refine wpList_append_own _ rfl _ _ 47 rfl w.heap.size 63 r0 (.slice none 0 0) 1 24 Tryd.underlying47 hr0 hr1 hr2 hr3 rfl (by decide) _ _ _ rfl hto ⟨_, 0, none⟩ 1 1 [.slice A12 r.length c12] rfl rfl ?d1 ?d2 ?d3 ?d4 ?d5 ?_)
              case d1 => exact oneCellG wr _ _
              case d2 => intro u hu; simp at hu; subst hu; rfl
              case d3 => unfold maxLen; omega
              case d4 => omega
              case d5 => simp; omega
              intro v' w4 hown' hgrow _
              obtain ⟨At', ct', rfl⟩ := own_shapeG hown'
              have g1 := H4.out.graph.kept hgrow (H4.out.graph.not_row (by decide) hto)
              have g2 := g1.cell1
              have g3 := g1.frozen1
              have H5 := Lib.hid (H4.out.next hown' hgrow HR4.out HE.out)
              clear hown' hgrow hto k1 g1
              go_wp2
              go_roundg (go - 1)
              case measure => omega
              case rel => exact ⟨j + 1, by omega, by go_num, At', ct', _, H5⟩
        · obtain rfl : j = (innerN l).length := by omega
          have c0 := HG2.out.graph.cell0
          have c1 := HG2.out.graph.cell1
          have o0 := HG2.out.out.cell0
          have o1 := HG2.out.out.cell1
          have f0 := HG2.out.out.frozen0
          have f1 := HG2.out.out.frozen1
          have HD := Lib.hid HG2.out.done
          go_wp2
          obtain ⟨q, d1, d2, d3⟩ := HD.out
          have q0 := q.cell0
          have q1 := q.cell1
          exact bodyPost_ret (v := .agg #[.slice An (innerN l).length cn, .slice At (innerN l).length ct]) (by simp [results, Tryd.results26, go_sem, q0, q1]) rfl ⟨An, cn, At, ct, by rw [List.length_map]; rfl, by rw [List.length_map]; exact d1, by rw [List.length_map]; exact d2, d3⟩
end Go.Proofs.YtkeclfhhilphpaaDoor

