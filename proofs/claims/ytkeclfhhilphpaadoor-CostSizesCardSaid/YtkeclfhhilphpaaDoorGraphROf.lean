/- The reference's Of (printed by gen-graphrof.py). Conditions: at most 2^20 entities, texts of at most 2^20 bytes. -/
import Derived.Test.YtkeclfhhilphpaaDoorEntRef
namespace Go.Proofs.YtkeclfhhilphpaaDoor
set_option linter.unusedSimpArgs false
set_option linter.unusedVariables false
open Go.RowKit Go.Maps Go.Proofs.YtkeclfhhilphpaaDoor.GraphPlain Go.Proofs.YtkeclfhhilphpaaDoor.RefPlain
/-- What holds behind k of the inner entities: bg: the graph's block, b0: the rows' base. -/
structure RGot (w1 w : World) (B bg : Nat) (ns : List ByteArray) (G : Gr) (k : Nat) (An : Option Addr) (cn : Nat) (At : Option Addr) (ct : Nat) (vs : List Value) : Prop where
  graph : Box2 w bg 49 (.slice An k cn) (.slice At k ct)
  names : w.ownsRow w1.heap.size 9 1 (.slice An k cn) k (txtCells (ns.take k))
  to : w.ownsRow w1.heap.size 63 1 (.slice At k ct) k vs
  inner : InnerAt w w1.heap.size vs (G.take k)
  below : Below w1.heap.size w1 w
  block : w1.heap.size ≤ bg
variable {w1 w w' : World} {B bg : Nat} {ns : List ByteArray} {G : Gr} {k : Nat} {An An' : Option Addr} {cn cn' : Nat} {At At' : Option Addr} {ct ct' : Nat} {vs : List Value}
theorem RGot.later (h : RGot w1 w B bg ns G k An cn At ct vs) (hb : Below w.heap.size w w') : RGot w1 w' B bg ns G k An cn At ct vs :=
  ⟨h.graph.below hb, ownB_below h.names hb, ownB_below h.to hb, h.inner.below hb, h.below.trans (hb.mono h.below.size), h.block⟩
/-- Half a round: the names are one more. -/
structure RMid (w1 w : World) (B bg : Nat) (ns : List ByteArray) (G : Gr) (k : Nat) (g v : Value) (n : Nat) (xs : List Value) (At : Option Addr) (ct : Nat) (vs : List Value) : Prop where
  graph : Box2 w bg 49 g (.slice At k ct)
  names : w.ownsRow w1.heap.size 9 1 v n xs
  to : w.ownsRow w1.heap.size 63 1 (.slice At k ct) k vs
  inner : InnerAt w w1.heap.size vs (G.take k)
  below : Below w1.heap.size w1 w
  block : w1.heap.size ≤ bg
variable {g v v' : Value} {n n' : Nat} {xs xs' : List Value}
theorem RMid.later (h : RMid w1 w B bg ns G k g v n xs At ct vs) (hb : Below w.heap.size w w') : RMid w1 w' B bg ns G k g v n xs At ct vs :=
  ⟨h.graph.below hb, ownB_below h.names hb, ownB_below h.to hb, h.inner.below hb, h.below.trans (hb.mono h.below.size), h.block⟩
theorem RMid.grow (h : RMid w1 w B bg ns G k g v n xs At ct vs) (ho : w'.ownsRow w1.heap.size 9 1 v' n' xs') (hg : w.grownBy w' v.ownBlock) : RMid w1 w' B bg ns G k g v' n' xs' At ct vs :=
  ⟨h.graph.kept hg (h.graph.not_row (by decide) h.names), ho, h.to.kept hg (rows_apart h.to h.names (by decide)), h.inner.kept hg fun _ _ _ _ hx => rows_apart hx h.names (by decide), h.below.grown hg h.below.size (fun g hg => (h.names.lt g hg).1), h.block⟩
theorem RMid.store (h : RMid w1 w B bg ns G k g v n xs At ct vs) (g' : Value) : RMid w1 (w.setCell ⟨bg, 0, none⟩ g') B bg ns G k g' v n xs At ct vs :=
  have hs := grownBy_setAny w ⟨bg, 0, none⟩ g'
  ⟨h.graph.set0 g', h.names.kept hs (.inr (h.graph.not_row (by decide) h.names).symm), h.to.kept hs (.inr (h.graph.not_row (by decide) h.to).symm), h.inner.kept hs fun _ _ _ _ hx => .inr (h.graph.not_row (by decide) hx).symm, h.below.setCell h.block g', h.block⟩
theorem RMid.next (h : RMid w1 w B bg ns G k (.slice An (k + 1) cn) (.slice An (k + 1) cn) (k + 1) (txtCells (ns.take (k + 1))) At ct vs) {Ar : Option Addr} {cr : Nat} {r : List Nat}
    (ho : w'.ownsRow w1.heap.size 63 1 (.slice At' (k + 1) ct') (k + 1) (vs ++ [.slice Ar r.length cr])) (hg : w.grownBy w' (Value.slice At k ct).ownBlock) (hr : w.ownsRow w1.heap.size 3 1 (.slice Ar r.length cr) r.length (natCells r)) (hk : G[k]? = some r) :
    RGot w1 (w'.setCell ⟨bg, 1, none⟩ (.slice At' (k + 1) ct')) B bg ns G (k + 1) An cn At' ct' (vs ++ [.slice Ar r.length cr]) := by
  have g1 := h.graph.kept hg (h.graph.not_row (by decide) h.to)
  have g3 := h.names.kept hg (rows_apart h.names h.to (by decide))
  have g6 := (h.inner.kept hg fun _ _ _ _ hx => rows_apart hx h.to (by decide)).snoc (hr.kept hg (rows_apart hr h.to (by decide)))
  have hs := grownBy_setAny w' ⟨bg, 1, none⟩ (.slice At' (k + 1) ct')
  refine ⟨g1.set1 _, g3.kept hs (.inr (g1.not_row (by decide) g3).symm), ho.kept hs (.inr (g1.not_row (by decide) ho).symm), ?_, (h.below.grown hg h.below.size (fun g hg => (h.to.lt g hg).1)).setCell h.block _, h.block⟩
  rw [List.take_add_one, hk]
  exact g6.kept hs fun _ _ _ _ hx => .inr (g1.not_row (by decide) hx).symm
theorem RGot.done {w0 w1 w : World} {l : List Ent} {bg : Nat} {An : Option Addr} {cn : Nat} {At : Option Addr} {ct : Nat} {vs : List Value} (h : RGot w1 w w0.heap.size bg ((innerN l).map Ent.na) (entG l) (innerN l).length An cn At ct vs) (ho : Box2 w w0.heap.size 49 (.slice none 0 0) (.slice none 0 0)) (hb : Below w0.heap.size w0 w1) (hl : (entG l).length = (innerN l).length) :
    let w' := (w.setCell ⟨w0.heap.size, 0, none⟩ (.slice An (innerN l).length cn)).setCell ⟨w0.heap.size, 1, none⟩ (.slice At (innerN l).length ct)
    Box2 w' w0.heap.size 49 (.slice An (innerN l).length cn) (.slice At (innerN l).length ct) ∧ TsAt w' An (innerN l).length ((innerN l).map Ent.na) ∧ GrAt w' At (innerN l).length (intG (entG l)) ∧ Below w0.heap.size w0 w' := by
  intro w'
  have hs1 := grownBy_setAny w ⟨w0.heap.size, 0, none⟩ (.slice An (innerN l).length cn)
  have hs2 := grownBy_setAny (w.setCell ⟨w0.heap.size, 0, none⟩ (.slice An (innerN l).length cn)) ⟨w0.heap.size, 1, none⟩ (.slice At (innerN l).length ct)
  have o1 := ho.set0 (.slice An (innerN l).length cn)
  have keep : ∀ {b n : Nat} {e : TypeId} {v : Value} {xs : List Value}, 49 ≠ e → w.ownsRow b e 1 v n xs → w'.ownsRow b e 1 v n xs := fun he hx => by
    have h1 := hx.kept hs1 (.inr (ho.not_row he hx).symm)
    exact h1.kept hs2 (.inr (o1.not_row he h1).symm)
  have hin := h.inner
  rw [show (entG l).take (innerN l).length = entG l by rw [← hl, List.take_length]] at hin
  have hB : Below w0.heap.size w0 w := hb.trans (h.below.mono hb.size)
  refine ⟨o1.set1 _, ?_, grAt_of (keep (by decide) h.to) ⟨hin.1, fun i hi => ?_⟩ hl.symm, (hB.setCell (Nat.le_refl _) _).setCell (Nat.le_refl _) _⟩
  · have hn := h.names
    rw [show ((innerN l).map Ent.na).take (innerN l).length = (innerN l).map Ent.na by rw [List.take_of_length_le (by simp)]] at hn
    have := keep (by decide) hn
    have e : (innerN l).length = ((innerN l).map Ent.na).length := by simp
    rw [e] at this ⊢
    exact TsAt.of_own this
  · obtain ⟨A, c, h1, h2⟩ := hin.2 i hi
    exact ⟨A, c, h1, keep (by decide) h2⟩
set_option maxRecDepth 100000 in
set_option maxHeartbeats 16000000 in
theorem rof_any (A : Option Addr) (n c : Nat) (l : List Ent) (w : World) (hl : EntsAt w A n l) (hn : n ≤ 1048576) (hs : ∀ e ∈ l, e.tx.size ≤ 1048576) :
    Calls Tryd.prog 15 #[.slice A n c] w (GrTold ((innerN l).map Ent.na) (entG l) w) := by
  obtain ⟨i0, hi0, hz0, hz1, hz2⟩ := info_parts Tryd.infoTxt
  obtain ⟨j0, hj0, hj1, hj2, hj3⟩ := info_parts Tryd.infoInt
  obtain ⟨r0, hr0, hr1, hr2, hr3⟩ := info_parts Tryd.infoRow
  have HS := Lib.hid hs
  have hNk : (innerN l).length ≤ n := by have := innerN_len l n; rwa [List.take_of_length_le (by rw [hl.1]; exact Nat.le_refl _)] at this
  obtain ⟨W, hW, hB, hz, c0, c1⟩ := grBox w none 0 0 none 0 0 49
  have HO : Hid (Box2 W w.heap.size 49 (.slice none 0 0) (.slice none 0 0)) := by
    show Box2 W _ _ _ _
    rw [← hW]; exact Box2.new w _ _ _
  have C := Lib.hid (inner_any A n c l W (hl.below hB) hn)
  have HB := Lib.hid hB
  clear hl hs hB c0 c1
  go_enter Tryd.func15, Tryd.ntmps15
  go_wp2_with fail
  refine C.out.mono ?_
  rintro e w1 ⟨A3, c3, rfl, hown, hB1⟩
  have HE1 := Lib.hid (EntsAt.of_own hown)
  have HO1 := Lib.hid (HO.out.below hB1)
  have HB1 := Lib.hid (HB.out.trans (hB1.mono HB.out.size))
  have HLN : Hid ((entG l).length = (innerN l).length) := by show _ = _; simp [entG]
  clear hown hB1 C HO HB
  have G0 : Hid (RGot w1 (w1.alloc (.cells #[.slice none 0 0, .slice none 0 0] 49)) w.heap.size w1.heap.size ((innerN l).map Ent.na) (entG l) 0 none 0 none 0 []) :=
    ⟨Box2.new w1 _ _ _, World.ownsRow_nil _ _ _ _, World.ownsRow_nil _ _ _ _, ⟨by simp, fun i hi => by simp at hi⟩, (Below.refl _ w1).alloc (Nat.le_refl _) _, Nat.le_refl _⟩
  go_wp2_with fail
  go_loopg [5] (innerN l).length (fun g v5 wr => ∃ j : Nat, g + j = (innerN l).length ∧ v5 = .int .i64 j ∧ ∃ An cn At ct vs, Hid (RGot w1 wr w.heap.size w1.heap.size ((innerN l).map Ent.na) (entG l) j An cn At ct vs))
  case atStart => exact ⟨0, rfl, rfl, none, 0, none, 0, _, G0⟩
  case round =>
    obtain ⟨j, hgj, rfl, An, cn, At, ct, vs, HG⟩ := hrel
    by_cases hlj : j < (innerN l).length
    · have b0 : (0 : Int) ≤ (j : Int) := by omega
      have b1 : (j : Int) < ((innerN l).length : Int) := by omega
      obtain ⟨a, x, ha, hx, he⟩ := HE1.out.2 j hlj
      subst ha
      obtain ⟨e0, e1, e2, _⟩ := he.below HG.out.below
      have hxs := HS.out x (innerN_mem (List.mem_of_getElem? hx))
      have HEG : Hid ((entG l)[j]? = some (toN ((innerN l).map Ent.na) (outN true (namesOf x.tx)))) := by
        show _ = _
        unfold entG; rw [List.getElem?_map, hx]; rfl
      have HNX : Hid (txtCells (((innerN l).map Ent.na).take (j + 1)) = txtCells (((innerN l).map Ent.na).take j) ++ [.string x.na]) := by
        show _ = _
        rw [List.take_add_one, List.getElem?_map, hx]; simp [txtCells]
      have hsz := HG.out.below.size
      have g0 := HG.out.graph.cell0
      have HM : Hid (RMid w1 wr w.heap.size w1.heap.size ((innerN l).map Ent.na) (entG l) j (.slice An j cn) (.slice An j cn) j (txtCells (((innerN l).map Ent.na).take j)) At ct vs) := ⟨HG.out.graph, HG.out.names, HG.out.to, HG.out.inner, HG.out.below, HG.out.block⟩
      have hab1 : (a.add (j * 6)).block < w1.heap.size := he.1
      clear G0 hx he HG
      go_wp2_with fail
      have HX := Lib.hid (HE1.out.below HM.out.below)
      have H := Lib.hid (HM.out.later (w' := wr.drew) ⟨rfl, rfl, rfl, Nat.le_refl _, fun _ _ => rfl⟩)
      have hN : wr.drew.cell? (a.add (j * 6)) = some (.string x.na) := e1
      have hblk : (a.add (j * 6)).block < wr.heap.size := e0
      refine wp_region_late [(10, fun w' => w'.cell? ⟨w1.heap.size, 0, none⟩ = some (.slice An j cn) ∧ w'.cell? (a.add (j * 6)) = some (.string x.na))] (by kernel_rfl) ⟨.inr ⟨H.out.graph.cell0, hN⟩, trivial⟩ (fun hC0 => ?_)
      have hz0' : wr.drew.heap.size = wr.heap.size := rfl
      have e2' : wr.drew.cell? ⟨(a.add (j * 6)).block, (a.add (j * 6)).off + 1, none⟩ = some (.string x.tx) := e2
      clear e1 e2 g0 HM
      generalize wr.drew = W0 at *
      rw [← hz0'] at hblk
      clear hz0'
      refine wpAnyL_pure (i := 0) (oi := ({ dst := some 19, op := Op.fieldAddr 49 (Operand.tmp 4) 0, type := 0, pos := "ref.go:40", after := #[], guard := none } : Oper)) (v := ?_) rfl (by kernel_rfl) (by kernel_rfl) (by kernel_rfl) (by kernel_rfl) (fun _ _ _ h => h) (Or.inl ⟨by rfl, ?_⟩) (by assumption) (by kernel_rfl) ?_
      rotate_left 1
      · intro w hSw; clear hSw; go_simp; try with_reducible rfl
      (try simp only [Act.put, List.setIfInBounds_toArray, List.set_cons_zero, List.set_cons_succ])
      refine wpAnyL_take (i := 1) 0 (oi := ({ dst := some 20, op := Op.load 46 (Operand.tmp 19), type := 46, pos := "ref.go:40", after := #[{ on := 0, ground := Ground.data }], guard := none } : Oper)) (v := ?_) rfl (by kernel_rfl) (by kernel_rfl) (by kernel_rfl) rfl (by kernel_rfl) (by kernel_rfl) (by kernel_rfl) (fun _ _ _ h => h) (Or.inl ⟨by rfl, ?_⟩) (by assumption) (by kernel_rfl) ?_
      rotate_left 1
      · intro w hSw; (try dsimp only at hSw); go_simp; try with_reducible rfl
      (try simp only [Act.put, List.setIfInBounds_toArray, List.set_cons_zero, List.set_cons_succ])
      refine wpAnyL_pure (i := 2) (oi := ({ dst := some 21, op := Op.move (Operand.tmp 3), type := 22, pos := "ref.go:40", after := #[], guard := none } : Oper)) (v := ?_) rfl (by kernel_rfl) (by kernel_rfl) (by kernel_rfl) (by kernel_rfl) (fun _ _ _ h => h) (Or.inl ⟨by rfl, ?_⟩) (by assumption) (by kernel_rfl) ?_
      rotate_left 1
      · intro w hSw; clear hSw; go_simp; try with_reducible rfl
      (try simp only [Act.put, List.setIfInBounds_toArray, List.set_cons_zero, List.set_cons_succ])
      refine wpAnyL_pure (i := 3) (oi := ({ dst := some 22, op := Op.move (Operand.tmp 5), type := 3, pos := "ref.go:40", after := #[], guard := none } : Oper)) (v := ?_) rfl (by kernel_rfl) (by kernel_rfl) (by kernel_rfl) (by kernel_rfl) (fun _ _ _ h => h) (Or.inl ⟨by rfl, ?_⟩) (by assumption) (by kernel_rfl) ?_
      rotate_left 1
      · intro w hSw; clear hSw; go_simp; try with_reducible rfl
      (try simp only [Act.put, List.setIfInBounds_toArray, List.set_cons_zero, List.set_cons_succ])
      refine wpAnyL_pure (i := 4) (oi := ({ dst := some 23, op := Op.indexAddr 22 (Operand.tmp 21) (Operand.tmp 22), type := 0, pos := "ref.go:40", after := #[{ on := 2, ground := Ground.data }, { on := 3, ground := Ground.data }], guard := none } : Oper)) (v := ?_) rfl (by kernel_rfl) (by kernel_rfl) (by kernel_rfl) (by kernel_rfl) (fun _ _ _ h => h) (Or.inl ⟨by rfl, ?_⟩) (by assumption) (by kernel_rfl) ?_
      rotate_left 1
      · intro w hSw; clear hSw; go_simp; try with_reducible rfl
      (try simp only [Act.put, List.setIfInBounds_toArray, List.set_cons_zero, List.set_cons_succ])
      refine wpAnyL_pure (i := 5) (oi := ({ dst := some 24, op := Op.fieldAddr 44 (Operand.tmp 23) 0, type := 0, pos := "ref.go:40", after := #[{ on := 4, ground := Ground.data }], guard := none } : Oper)) (v := ?_) rfl (by kernel_rfl) (by kernel_rfl) (by kernel_rfl) (by kernel_rfl) (fun _ _ _ h => h) (Or.inl ⟨by rfl, ?_⟩) (by assumption) (by kernel_rfl) ?_
      rotate_left 1
      · intro w hSw; clear hSw; go_simp; try with_reducible rfl
      (try simp only [Act.put, List.setIfInBounds_toArray, List.set_cons_zero, List.set_cons_succ])
      refine wpAnyL_take (i := 6) 0 (oi := ({ dst := some 25, op := Op.load 9 (Operand.tmp 24), type := 9, pos := "ref.go:40", after := #[{ on := 5, ground := Ground.data }], guard := none } : Oper)) (v := ?_) rfl (by kernel_rfl) (by kernel_rfl) (by kernel_rfl) rfl (by kernel_rfl) (by kernel_rfl) (by kernel_rfl) (fun _ _ _ h => h) (Or.inl ⟨by rfl, ?_⟩) (by assumption) (by kernel_rfl) ?_
      rotate_left 1
      · intro w hSw; (try dsimp only at hSw); go_simp; try with_reducible rfl
      (try simp only [Act.put, List.setIfInBounds_toArray, List.set_cons_zero, List.set_cons_succ])
      refine wpAnyL_ready (rs := [7]) (by kernel_rfl) (by simp) ?_
      refine AllReadyL.cons (o := _) rfl (fun K hK => ?_) AllReadyL.nil
      go_simp
      have H7 := Lib.hid (H.out.later ((Below.refl _ W0).alloc (Nat.le_refl _) (.cells #[.string x.na] 9)))
      have hN7 := (((Below.refl _ W0).alloc (Nat.le_refl _) (.cells #[.string x.na] 9)).cell (p := a.add (j * 6)) hblk).trans hN
      have e27 := (((Below.refl _ W0).alloc (Nat.le_refl _) (.cells #[.string x.na] 9)).cell (p := ⟨(a.add (j * 6)).block, (a.add (j * 6)).off + 1, none⟩) hblk).trans e2'
      have B7 := Lib.hid (Boxed.new W0 9 (.string x.na))
      have hblk7 : (a.add (j * 6)).block < (W0.alloc (.cells #[.string x.na] 9)).heap.size := by simp; omega
      clear H hC0 hN e2'; have H := H7; clear H7; have hN := hN7; clear hN7
      generalize W0.alloc (.cells #[.string x.na] 9) = W7 at *
      generalize W0.heap.size = b7 at *
      refine hK.out _ _ ⟨.inr ⟨H.out.graph.cell0, hN⟩, trivial⟩ (fun hC0 => ?_)
      clear hK K
      (try simp only [Act.put, List.setIfInBounds_toArray, List.set_cons_zero, List.set_cons_succ])
      refine wpAnyL_ready (rs := [8]) (by kernel_rfl) (by simp) ?_
      refine AllReadyL.cons (o := _) rfl (fun K hK => ?_) AllReadyL.nil
      refine stepOwn (by rfl) (.tmp 20) (.tmp 26) 46 (by rfl) w1.heap.size 9 i0 (.string ⟨#[]⟩) 16 Tryd.underlying46 hi0 hz0 hz1 hz2 (by rfl) (.slice An j cn) j (txtCells (((innerN l).map Ent.na).take j)) (by rfl) H.out.names ⟨b7, 0, none⟩ 1 1 [.string x.na] (by rfl) rfl (boxedCells B7.out) (by simp [Value.oneCell']) (by unfold maxLen; omega) (by omega) H.out.below.size ?_
      intro v8 W8 hown hgrow hblk8
      obtain ⟨An', cn', rfl⟩ := own_shapeG hown
      have hB8 : Below W7.heap.size W7 W8 ∨ True := .inr trivial
      have hne8 : some (a.add (j * 6)).block ≠ (Value.slice An j cn).ownBlock := fun e => by
        have h1 := (H.out.names.lt _ e.symm).1
        have h2 := hab1
        omega
      have hN8 := (hgrow.cell hN (by exact hne8))
      have e28 := (hgrow.cell e27 (by exact hne8))
      have hz8 := hgrow.size
      have H8 := Lib.hid (H.out.grow hown hgrow)
      clear H hC0 hN e27 hown hgrow hblk8 hB8; have H := H8; clear H8; have hN := hN8; clear hN8
      refine hK.out _ _ ⟨.inr ⟨H.out.graph.cell0, hN⟩, trivial⟩ (fun hC0 => ?_)
      clear hK K
      (try simp only [Act.put, List.setIfInBounds_toArray, List.set_cons_zero, List.set_cons_succ])
      refine wpAnyL_pure (i := 9) (oi := ({ dst := some 28, op := Op.fieldAddr 49 (Operand.tmp 4) 0, type := 0, pos := "ref.go:40", after := #[{ on := 0, ground := Ground.phase }, { on := 1, ground := Ground.phase }, { on := 2, ground := Ground.phase }, { on := 3, ground := Ground.phase }, { on := 4, ground := Ground.phase }, { on := 5, ground := Ground.phase }, { on := 6, ground := Ground.phase }, { on := 7, ground := Ground.phase }, { on := 8, ground := Ground.phase }], guard := none } : Oper)) (v := ?_) rfl (by kernel_rfl) (by kernel_rfl) (by kernel_rfl) (by kernel_rfl) (fun _ _ _ h => h) (Or.inl ⟨by rfl, ?_⟩) (by assumption) (by kernel_rfl) ?_
      rotate_left 1
      · intro w hSw; clear hSw; go_simp; try with_reducible rfl
      (try simp only [Act.put, List.setIfInBounds_toArray, List.set_cons_zero, List.set_cons_succ])
      have gc := H.out.graph.cell0
      have gf := H.out.graph.frozen0
      refine wpAnyL_ready (rs := [10]) (by kernel_rfl) (by simp) ?_
      refine AllReadyL.cons (o := _) rfl (fun K hK => ?_) AllReadyL.nil
      go_simp
      have H10 := Lib.hid (H.out.store (.slice An' (j + 1) cn'))
      have hbg : (a.add (j * 6)).block ≠ w1.heap.size := by omega
      have e210 : (W8.setCell ⟨w1.heap.size, 0, none⟩ (.slice An' (j + 1) cn')).cell? ⟨(a.add (j * 6)).block, (a.add (j * 6)).off + 1, none⟩ = some (.string x.tx) := (World.cell?_setCell_far _ _ _ _ (fun e => hbg e.symm)).trans e28
      clear H hC0 gc gf hN e28; have H := H10; clear H10
      refine hK.out _ _ ⟨.inl (by kernel_rfl), trivial⟩ (fun hC0 => ?_)
      clear hK K hC0
      (try simp only [Act.put, List.setIfInBounds_toArray, List.set_cons_zero, List.set_cons_succ])
      generalize W8.setCell ⟨w1.heap.size, 0, none⟩ (.slice An' (j + 1) cn') = WE at *
      refine wpAnyL_done (by kernel_rfl) ?_ _
      have H1 := Lib.hid (show RMid w1 WE w.heap.size w1.heap.size ((innerN l).map Ent.na) (entG l) j (.slice An' (j + 1) cn') (.slice An' (j + 1) cn') (j + 1) (txtCells (((innerN l).map Ent.na).take (j + 1))) At ct vs by rw [HNX.out]; exact H.out)
      have C := Lib.hid (rnames_true x.tx WE hxs)
      clear H HX
      go_wp2_with fail
      refine C.out.mono ?_
      rintro e' w2 ⟨A2, c2, rfl, hts, hB2⟩
      have HT2 := Lib.hid hts
      have H2 := Lib.hid (H1.out.later hB2)
      have HE2 := Lib.hid (HE1.out.below H2.out.below)
      have hys := outN_few x.tx
      have hsz2 := H2.out.below.size
      clear C hts hB2 H1 e210
      generalize outN true (namesOf x.tx) = ys at *
      obtain ⟨go, hgo⟩ : ∃ go, go = gk := ⟨_, rfl⟩
      rw [← hgo] at hgj
      have R0 : Hid (w2.ownsRow w2.heap.size 3 1 (.slice none 0 0) (toN ((innerN l).map Ent.na) (ys.take 0)).length (natCells (toN ((innerN l).map Ent.na) (ys.take 0)))) := World.ownsRow_nil _ _ _ _
      go_wp2_with fail
      go_loopg [7, 8] ys.length (fun g v7 v8 wr' => ∃ i : Nat, g + i = ys.length ∧ v8 = .int .i64 i ∧ Hid (Below w2.heap.size w2 wr') ∧ Hid (wr'.ownsRow w2.heap.size 3 1 v7 (toN ((innerN l).map Ent.na) (ys.take i)).length (natCells (toN ((innerN l).map Ent.na) (ys.take i)))))
      case atStart => exact ⟨0, rfl, rfl, Below.refl _ _, R0⟩
      case round =>
        obtain ⟨i, hgi, rfl, HW, HR⟩ := hrel
        by_cases hli : i < ys.length
        · obtain ⟨b, y, hb, hy, hbb, y0⟩ := HT2.out.2 i hli
          subst hb
          have b2 : (0 : Int) ≤ (i : Int) := by omega
          have b3 : (i : Int) < (ys.length : Int) := by omega
          have y1 := (HW.out.cell (p := b.add i) (by rw [addBlockT]; exact hbb)).trans y0
          have C := find_any (some a) (innerN l).length c3 (innerN l) y wr (HE2.out.below HW.out) (by omega)
          have HN := Lib.hid (toN_next (ns := (innerN l).map Ent.na) hy)
          obtain ⟨A12, c12, rfl⟩ := own_shapeG HR.out
          clear hy y0
          cases hh : hasT ((innerN l).map Ent.na) y with
          | true =>
            rw [findE_hasT.1 hh] at C
            have C := Lib.hid C
            have HN2 := Lib.hid (show toN ((innerN l).map Ent.na) (ys.take (i + 1)) = toN ((innerN l).map Ent.na) (ys.take i) ++ [idxT ((innerN l).map Ent.na) y] by rw [HN.out, if_pos hh])
            clear hh
            have hlen := toN_len ((innerN l).map Ent.na) (ys.take i)
            rw [List.length_take] at hlen
            generalize toN ((innerN l).map Ent.na) (ys.take i) = ts at *
            generalize idxT ((innerN l).map Ent.na) y = ix at *
            have t1 : (0 : Int) ≤ (ix : Int) := by omega
            go_wp2_with (first | (go_at_call 25; refine C.out.mono ?_; rintro e' w' ⟨rfl, rfl⟩) | (at_builtin; refine wpList_append_own _ rfl _ _ 63 rfl w2.heap.size 3 j0 (.int .i64 0) 1 8 Tryd.underlying63 hj0 hj1 hj2 hj3 rfl (by decide) _ _ _ rfl (HR.out.alloc _) ⟨_, 0, none⟩ 1 1 [.int .i64 ix] rfl rfl ?c1 ?c2 ?c3 ?c4 ?c5 ?_))
            case c1 => exact oneCellG wr _ _
            case c2 => intro u hu; simp at hu; subst hu; rfl
            case c3 => unfold maxLen; omega
            case c4 => omega
            case c5 => have := HW.out.size; simp; omega
            intro v' w3 hown' hgrow _
            have HR3 := Lib.hid hown'
            have HW3 := Lib.hid ((HW.out.alloc HW.out.size (.cells #[.int .i64 ix] 3)).grown hgrow (by have := HW.out.size; simp; omega) (fun g h => (HR.out.lt g h).1))
            clear hown' hgrow
            go_wp2
            go_roundg (gk - 1)
            case measure => omega
            case rel => exact ⟨i + 1, by omega, by go_num, HW3, by rw [HN2.out, natCells_snoc, List.length_append]; exact HR3.out⟩
          | false =>
            rw [findE_hasT.2 hh] at C
            have C := Lib.hid C
            have HN2 := Lib.hid (show toN ((innerN l).map Ent.na) (ys.take (i + 1)) = toN ((innerN l).map Ent.na) (ys.take i) by rw [HN.out, if_neg (by rw [hh]; decide)])
            have HR3 := HR.out
            rw [← HN2.out] at HR3
            have HR4 := Lib.hid HR3
            have eL : Hid ((toN ((innerN l).map Ent.na) (ys.take (i + 1))).length = (toN ((innerN l).map Ent.na) (ys.take i)).length) := by show _ = _; rw [HN2.out]
            clear hh HR3
            go_wp2_with (go_at_call 25; refine C.out.mono ?_; rintro e' w' ⟨rfl, rfl⟩)
            go_roundg (gk - 1)
            case measure => omega
            case rel => exact ⟨i + 1, by omega, by go_num, HW, by rw [← eL.out]; exact HR4.out⟩
        · obtain rfl : i = ys.length := by omega
          obtain ⟨A12, c12, rfl⟩ := own_shapeG HR.out
          have H3 := Lib.hid (H2.out.later HW.out)
          rw [List.take_length] at HR ⊢
          have hlen := toN_len ((innerN l).map Ent.na) ys
          generalize toN ((innerN l).map Ent.na) ys = r at *
          have hW := HW.out.size
          have HR4 := Lib.hid ((own_lowerG HR.out (show w1.heap.size ≤ w2.heap.size by omega)).alloc (.cells #[.slice A12 r.length c12] 63))
          have H4 := Lib.hid (H3.out.later ((Below.refl _ wr).alloc (Nat.le_refl _) (.cells #[.slice A12 r.length c12] 63)))
          have k1 := H3.out.graph.cell1
          have kl := H3.out.graph.lt
          have hto := H4.out.to
          have hjN : j < 1048576 := by omega
          go_wp2_with (at_builtin; refine wpList_append_own _ rfl _ _ 47 rfl w1.heap.size 63 r0 (.slice none 0 0) 1 24 Tryd.underlying47 hr0 hr1 hr2 hr3 rfl (by decide) _ _ _ rfl hto ⟨_, 0, none⟩ 1 1 [.slice A12 r.length c12] rfl rfl ?d1 ?d2 ?d3 ?d4 ?d5 ?_)
          case d1 => exact oneCellG wr _ _
          case d2 => intro u hu; simp at hu; subst hu; rfl
          case d3 => unfold maxLen; omega
          case d4 => omega
          case d5 => simp; omega
          intro v' w4 hown' hgrow _
          obtain ⟨At', ct', rfl⟩ := own_shapeG hown'
          have g1 := H4.out.graph.kept hgrow (H4.out.graph.not_row (by decide) hto)
          have g2 := g1.cell1
          have g3 := g1.frozen1
          have H5 := Lib.hid (H4.out.next hown' hgrow HR4.out HEG.out)
          clear hown' hgrow hto k1 g1
          go_wp2
          go_roundg (go - 1)
          case measure => omega
          case rel => exact ⟨j + 1, by omega, by go_num, An', cn', At', ct', _, H5⟩
    · obtain rfl : j = (innerN l).length := by omega
      have c0 := HG.out.graph.cell0
      have c1 := HG.out.graph.cell1
      have HO2 := HO1.out.below HG.out.below
      have o0 := HO2.cell0
      have o1 := HO2.cell1
      have f0 := HO2.frozen0
      have f1 := HO2.frozen1
      have HD := Lib.hid (HG.out.done HO2 HB1.out HLN.out)
      clear HO2
      go_wp2
      obtain ⟨q, d1, d2, d3⟩ := HD.out
      have q0 := q.cell0
      have q1 := q.cell1
      exact bodyPost_ret (v := .agg #[.slice An (innerN l).length cn, .slice At (innerN l).length ct]) (by simp [results, Tryd.results15, go_sem, q0, q1]) rfl ⟨An, cn, At, ct, by rw [List.length_map]; rfl, by rw [List.length_map]; exact d1, by rw [List.length_map]; exact d2, d3⟩
end Go.Proofs.YtkeclfhhilphpaaDoor

