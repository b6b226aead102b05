/- Merged texts: CostRunP, CostRef, RefsOwn, CostText, CostBegA, CostBegL, SzCells, CostBegB, CostBegun, CostOf, CostLive, CostLoops. -/
import Derived.Test.YtkeclfhhilphpaaDoorCostMa
import Derived.Test.YtkeclfhhilphpaaDoorGraphOfPlain
import Derived.Deep.Cut
import Derived.Test.YtkeclfhhilphpaaDoorRefCollect
import Derived.Test.YtkeclfhhilphpaaDoorGraphOf
import Derived.Test.YtkeclfhhilphpaaDoorGraphMc
import Derived.Test.YtkeclfhhilphpaaDoorGraphLoop
import Derived.Laws.OwnMore
import Derived.Test.YtkeclfhhilphpaaDoorGraphROf
/- Sizes of all entities, in an order; the map from names to places. Plain; no program in sight. -/
namespace Go.Proofs.YtkeclfhhilphpaaDoor
open Go.Maps Go.Proofs.YtkeclfhhilphpaaDoor.RefPlain Go.Proofs.YtkeclfhhilphpaaDoor.GraphPlain
set_option linter.unusedVariables false
abbrev SzF := ByteArray → Option Sz
def zero3 : Sz := ⟨0, 0, 0⟩
def entD (inn : List Ent) (i : Nat) : Ent := inn.getD i default
def stepR (inn : List Ent) (st : SzF × List Sz) (i : Nat) : SzF × List Sz :=
  (putF st.1 (entD inn i).na (sizeT (refF st.1) (bsOf (entD inn i).tx)), st.2.set i (sizeT (refF st.1) (bsOf (entD inn i).tx)))
/-- Sizes known behind an order: by name, and in their places. -/
def runZ (inn : List Ent) (o : List Nat) : SzF × List Sz := o.foldl (stepR inn) (fun _ => none, List.replicate inn.length zero3)
theorem runZ_next {inn : List Ent} {o : List Nat} {k i : Nat} (h : o[k]? = some i) : runZ inn (o.take (k + 1)) = stepR inn (runZ inn (o.take k)) i := by
  unfold runZ
  rw [List.take_add_one, h, List.foldl_append]
  rfl
theorem runZ_snoc {inn : List Ent} {o : List Nat} {i : Nat} : runZ inn (o ++ [i]) = stepR inn (runZ inn o) i := by
  unfold runZ; rw [List.foldl_append]; rfl
theorem runZ_len {inn : List Ent} : ∀ (o : List Nat), (runZ inn o).2.length = inn.length := by
  intro o
  unfold runZ
  have : ∀ (o : List Nat) (st : SzF × List Sz), (o.foldl (stepR inn) st).2.length = st.2.length := by
    intro o
    induction o with
    | nil => intro st; rfl
    | cons i o ih => intro st; rw [List.foldl_cons, ih]; show (st.2.set _ _).length = _; rw [List.length_set]
  rw [this]; simp
theorem okF.mono {f : SzF} {m m' : Nat} (h : okF f m) (hm : m ≤ m') : okF f m' := fun k z hz => ⟨(h k z hz).1, (h k z hz).2.1, Nat.le_trans (h k z hz).2.2 hm⟩
theorem stepR_ok {inn : List Ent} {st : SzF × List Sz} {m i : Nat} (h : okF st.1 m) (h2 : ∀ z ∈ st.2, z.upto (m + 1)) (hm : m + 1 ≤ MX) (ht : (bsOf (entD inn i).tx).length ≤ MX) :
    okF (stepR inn st i).1 (m + 1) ∧ (∀ z ∈ (stepR inn st i).2, z.upto (m + 1)) := by
  have hz := sizeT_upto ht (ref_upto ht h hm)
  refine ⟨?_, ?_⟩
  · intro k z hk
    unfold stepR putF at hk
    dsimp only at hk
    by_cases e : k = (entD inn i).na
    · rw [if_pos e] at hk; cases hk; exact hz
    · rw [if_neg e] at hk; exact h.mono (Nat.le_succ m) k z hk
  · intro z hk
    rcases List.mem_or_eq_of_mem_set hk with h' | h'
    · exact h2 z h'
    · rw [h']; exact hz
theorem runZ_ok {inn : List Ent} (o : List Nat) (hm : o.length ≤ MX) (ht : ∀ i, (bsOf (entD inn i).tx).length ≤ MX) : ∀ k, okF (runZ inn (o.take k)).1 k ∧ ∀ z ∈ (runZ inn (o.take k)).2, z.upto k := by
  intro k
  induction k with
  | zero =>
    refine And.intro (show ∀ k z, (none : Option Sz) = some z → _ from fun k z h => by cases h) (fun z hz => ?_)
    have : z = zero3 := by
      have hz : z ∈ List.replicate inn.length zero3 := hz
      exact (List.mem_replicate.1 hz).2
    subst this
    exact ⟨Nat.zero_le _, Nat.zero_le _, Nat.zero_le _⟩
  | succ k ih =>
    cases hx : o[k]? with
    | none =>
      rw [List.take_add_one, hx]
      have e : o.take k ++ (none : Option Nat).toList = o.take k := by simp
      rw [e]
      exact ⟨ih.1.mono (Nat.le_succ k), fun z hz => ⟨(ih.2 z hz).1, (ih.2 z hz).2.1, Nat.le_trans (ih.2 z hz).2.2 (Nat.le_succ k)⟩⟩
    | some i =>
      have hk : k < o.length := (List.getElem?_eq_some_iff.1 hx).1
      rw [runZ_next hx]
      exact stepR_ok ih.1 (fun z hz => ⟨(ih.2 z hz).1, (ih.2 z hz).2.1, Nat.le_trans (ih.2 z hz).2.2 (Nat.le_succ k)⟩) (by omega) (ht i)
/-- Names of internal entities are told once each. -/
theorem addE_nodup {acc : List Ent} {x : Ent} (h : (acc.map Ent.na).Nodup) : ((addE acc x).map Ent.na).Nodup := by
  unfold addE
  split
  · exact h
  · rename_i hn
    rw [List.map_append, List.nodup_append]
    refine ⟨h, by simp, ?_⟩
    intro a ha b hb
    simp at hb
    subst hb
    rintro rfl
    refine hn (.inr ?_)
    unfold hasT
    simpa using ha
theorem innerN_nodup (l : List Ent) : ((innerN l).map Ent.na).Nodup := by
  unfold innerN
  have : ∀ (l : List Ent) (acc : List Ent), (acc.map Ent.na).Nodup → ((l.foldl addE acc).map Ent.na).Nodup := by
    intro l
    induction l with
    | nil => intro acc h; exact h
    | cons x l ih => intro acc h; exact ih _ (addE_nodup h)
  exact this l [] (by simp)
theorem inner_same {l : List Ent} {i : Nat} {e d : Ent} (hd : (innerN l)[i]? = some d) (he : e ∈ innerN l) (hn : e.na = d.na) : e = d := by
  obtain ⟨j, hj, hje⟩ := List.getElem_of_mem he
  obtain ⟨hi, hie⟩ := List.getElem?_eq_some_iff.1 hd
  have h := innerN_nodup l
  have hij : j = i := by
    refine (List.getElem_inj (h₀ := by simpa using hj) (h₁ := by simpa using hi) h).1 ?_
    rw [List.getElem_map, List.getElem_map, hje, hie, hn]
  subst hij
  rw [← hje, ← hie]
/-- The map from names to places, behind some entities. -/
def KeyP (D : DataW Unit) (l : List Ent) (inn : List Ent) : Prop := ∀ y : ByteArray, Maps.has D (.string y.data.toList) = hasT (inn.map Ent.na) y ∧
  (hasT (inn.map Ent.na) y = true → ∃ (t : Nat) (e : Ent), D.atKey (.string y.data.toList) (.lit (.int .i64 0)) = .lit (.int .i64 t) ∧ l[t]? = some e ∧ e.na = y ∧ e ∈ inn)
theorem KeyP.nil (l : List Ent) : KeyP (.map []) l [] := fun y => ⟨rfl, fun h => by simp [hasT] at h⟩
theorem KeyP.put {D : DataW Unit} {l : List Ent} {inn : List Ent} {x : Ent} {t : Nat} (h : KeyP D l inn) (hm : IsMap D) (hx : l[t]? = some x) (hn : hasT (inn.map Ent.na) x.na = false) : KeyP (D.put (.string x.na.data.toList) (.lit (.int .i64 t))) l (inn ++ [x]) := by
  intro y
  rw [List.map_append, List.map_cons, List.map_nil, hasT_snoc]
  by_cases e : x.na = y
  · subst e
    refine ⟨?_, fun _ => ⟨t, x, ?_, hx, rfl, by simp⟩⟩
    · rw [decide_eq_true rfl, Bool.or_true]
      exact has_put_same hm (show WideAt.IsKeyLit (.string x.na.data.toList) from trivial) _
    · rw [atKey_put_same hm (show WideAt.IsKeyLit (.string x.na.data.toList) from trivial)]
  · have hne : ¬ (Lit.string y.data.toList : Lit) = .string x.na.data.toList := fun e2 => e (Go.WideShapes.bytes_inj (Lit.string.inj e2)).symm
    obtain ⟨h1, h2⟩ := h y
    have hd : decide (x.na = y) = false := by simpa using e
    rw [hd, Bool.or_false]
    refine ⟨?_, fun hh => ?_⟩
    · rw [← h1]; exact has_put_other hne _
    · obtain ⟨t', e', g1, g2, g3, g4⟩ := h2 hh
      exact ⟨t', e', by rw [atKey_put_other hne]; exact g1, g2, g3, List.mem_append_left _ g4⟩
end Go.Proofs.YtkeclfhhilphpaaDoor
/- cost's size of a reference. Conditions: the sizes known are no more than the greatest number. -/
namespace Go.Proofs.YtkeclfhhilphpaaDoor
open Go.RowKit Go.Maps Go.Proofs.YtkeclfhhilphpaaDoor.RefPlain
set_option linter.unusedVariables false
set_option linter.unusedSimpArgs false
theorem twoWorld (w : World) (t u : TypeId) (x0 x1 x2 z0 z1 z2 : Value) : ∃ W, (w.alloc (.cells #[x0, x1, x2] t)).alloc (.cells #[z0, z1, z2] u) = W ∧ W.heap.size = w.heap.size + 2 ∧ Below w.heap.size w W ∧
    Blk3 W w.heap.size t x0 x1 x2 ∧ Blk3 W (w.heap.size + 1) u z0 z1 z2 := by
  refine ⟨_, rfl, ?_, ?_, ?_, ?_⟩
  · simp
  · exact ((Below.refl _ _).alloc (by simp) _).alloc (by simp) _
  · exact (Blk3.new w t x0 x1 x2).later ((Below.refl _ _).alloc (by simp) _)
  · have h := Blk3.new (w.alloc (.cells #[x0, x1, x2] t)) u z0 z1 z2
    simpa using h
theorem look3 {w : World} {b n : Nat} {D : DataW Value} {f : ByteArray → Option Sz} (hD : SzMap D f) (s : ByteArray) (hs : s.size ≤ maxLen) (P : World → Prop) (hP : ∀ V, P V → V.ownsMap Tryd.prog 9 heldV b n D) :
    ∃ (qc ql qd : Nat) (ib : Bool), (∀ V, P V → (Instr.lookup 69 (.map (some b)) (.string s) true).run Tryd.prog V = .ok (.tuple #[.agg #[.int .i64 qc, .int .i64 ql, .int .i64 qd], .bool ib]) V) ∧ (if ib = true then f s = some ⟨qc, ql, qd⟩ else f s = none) := by
  cases h : f s with
  | some x =>
    obtain ⟨c, l, d⟩ := x
    refine ⟨c, l, d, true, fun V hV => ?_, by simp⟩
    have := sz_look (hP V hV) hD s hs
    rw [h] at this
    exact this
  | none =>
    refine ⟨0, 0, 0, false, fun V hV => ?_, by simp⟩
    have := sz_look (hP V hV) hD s hs
    rw [h] at this
    exact this
set_option maxHeartbeats 4000000 in
theorem ref_any (zb M n : Nat) (y z : Value) (D : DataW Value) (f : ByteArray → Option Sz) (r : RefR) (m : Nat) (w : World) (hz : ZAt w zb M y z n D f) (hk : KnownAt w) (hf : okF f m) (hm : m + 1 ≤ MX) (hab : r.a ≤ r.b) (hb : r.b ≤ MX) (hs : (strOfNums r.s).size ≤ maxLen) :
    Calls Tryd.prog 28 #[.pointer (some ⟨zb, 0, none⟩), .agg #[.int .i64 r.a, .int .i64 r.b, .string (strOfNums r.s)]] w (TellSz (refF f r) w) := by
  have hR : refF f r = refF f r := rfl
  conv at hR => rhs; unfold refF
  have hok := hf (strOfNums r.s)
  obtain ⟨a, b, bs⟩ := r
  have hb' := MX_int hb
  dsimp only at hab hb hs hR hb' hok ⊢
  generalize strOfNums bs = s at *
  obtain ⟨W, hW, hsz, hBW, b0, b1⟩ := twoWorld w 78 26 (.int .i64 a) (.int .i64 b) (.string s) (.int .i64 0) (.int .i64 0) (.int .i64 0)
  have zW := hz.later hBW
  obtain ⟨qc, ql, qd, ib, hlk, hib⟩ := look3 (w := W) hz.is s hs (fun V => Below W.heap.size W V) (fun V hV => (zW.later hV).map)
  have mk : ∀ V, Below W.heap.size W V → V.cell? ⟨zb, 0, none⟩ = some (.map (some M)) ∧ V.cell? ⟨w.heap.size, 2, none⟩ = some (.string s) ∧ (Instr.lookup 69 (.map (some M)) (.string s) true).run Tryd.prog V = .ok (.tuple #[.agg #[.int .i64 qc, .int .i64 ql, .int .i64 qd], .bool ib]) V := fun V hV => ⟨(zW.later hV).blk.c0, (b0.later hV).c2, hlk V hV⟩
  have x0 := b0.c0
  have x1 := b0.c1
  have HN := Lib.hid hsz
  have HK := Lib.hid (fun V (hb : Below W.heap.size W V) => known_any s V ((hk.later hBW).later hb))
  have B0 := Lib.hid b0
  have B1 := Lib.hid b1
  have HBW := Lib.hid hBW
  have MK := Lib.hid mk
  have e1 : (b : Int) - (a : Int) = ((b - a : Nat) : Int) := by omega
  have hba : ((b - a : Nat) : Int) ≤ 9223372036854775807 := by omega
  have h0 := mk _ (Below.refl _ _).drew
  clear hlk hz hk hf zW b0 b1 hBW mk hsz
  cases ib with
  | true =>
    rw [if_pos rfl] at hib
    rw [hib] at hR
    obtain ⟨g1, g2, g3⟩ := hok _ hib
    have RR := Lib.hid hR
    have hqc := MX_int g1

    have hqd2 : (qd : Int) + 1 ≤ 9223372036854775807 := by have := MX_int (n := qd + 1) (by dsimp only at g3; omega); omega
    have hqw : IntKind.i64.wrap ((qd : Int) + 1) = (qd : Int) + 1 := by simp [IntKind.wrap, IntKind.bits, IntKind.signed]; omega
    clear hib hR hok g1 g2 g3
    go_enter Tryd.func28, Tryd.ntmps28
    go_upto_region 1 with (fail)
    clear hW
    go_wp2_with fail
    refine wp_region_held_drew (S := fun V => Below W.heap.size W V ∧ V.cell? ⟨zb, 0, none⟩ = some (.map (some M)) ∧ V.cell? ⟨w.heap.size, 2, none⟩ = some (.string s) ∧ (Instr.lookup 69 (.map (some M)) (.string s) true).run Tryd.prog V = .ok (.tuple #[.agg #[.int .i64 qc, .int .i64 ql, .int .i64 qd], .bool true]) V) (by kernel_rfl) ⟨(Below.refl _ _).drew, h0⟩ (fun hHeld => ?_)
    --TAKES (*narthex/cost.sizes).ref:2 0..9
    refine wpAnyH_take (i := 0) (oi := ({ dst := some 16, op := Op.move (Operand.tmp 0), type := 51, pos := "cost.go:45", after := #[], guard := none } : Oper)) (v := ?_) rfl (by kernel_rfl) (by kernel_rfl) (by kernel_rfl) (fun _ _ _ h => h) (Or.inl ⟨by rfl, ?_⟩) (by assumption) ?_
    rotate_left 1
    · intro w hSw; (try dsimp only at hSw); go_simp; try with_reducible rfl
    (try simp only [Act.put, List.setIfInBounds_toArray, List.set_cons_zero, List.set_cons_succ])
    refine wpAnyH_take (i := 1) (oi := ({ dst := some 17, op := Op.nilCheck (Operand.tmp 16), type := 0, pos := "cost.go:45", after := #[{ on := 0, ground := Ground.data }], guard := none } : Oper)) (v := ?_) rfl (by kernel_rfl) (by kernel_rfl) (by kernel_rfl) (fun _ _ _ h => h) (Or.inl ⟨by rfl, ?_⟩) (by assumption) ?_
    rotate_left 1
    · intro w hSw; (try dsimp only at hSw); go_simp; try with_reducible rfl
    (try simp only [Act.put, List.setIfInBounds_toArray, List.set_cons_zero, List.set_cons_succ])
    refine wpAnyH_take (i := 2) (oi := ({ dst := some 18, op := Op.fieldAddr 72 (Operand.tmp 17) 0, type := 0, pos := "cost.go:45", after := #[{ on := 1, ground := Ground.data }], guard := none } : Oper)) (v := ?_) rfl (by kernel_rfl) (by kernel_rfl) (by kernel_rfl) (fun _ _ _ h => h) (Or.inl ⟨by rfl, ?_⟩) (by assumption) ?_
    rotate_left 1
    · intro w hSw; (try dsimp only at hSw); go_simp; try with_reducible rfl
    (try simp only [Act.put, List.setIfInBounds_toArray, List.set_cons_zero, List.set_cons_succ])
    refine wpAnyH_take (i := 3) (oi := ({ dst := some 19, op := Op.load 69 (Operand.tmp 18), type := 69, pos := "cost.go:45", after := #[{ on := 2, ground := Ground.data }], guard := none } : Oper)) (v := ?_) rfl (by kernel_rfl) (by kernel_rfl) (by kernel_rfl) (fun _ _ _ h => h) (Or.inl ⟨by rfl, ?_⟩) (by assumption) ?_
    rotate_left 1
    · intro w hSw; (try dsimp only at hSw); go_simp; try with_reducible rfl
    (try simp only [Act.put, List.setIfInBounds_toArray, List.set_cons_zero, List.set_cons_succ])
    refine wpAnyH_take (i := 4) (oi := ({ dst := some 20, op := Op.fieldAddr 78 (Operand.tmp 3) 2, type := 0, pos := "cost.go:45", after := #[], guard := none } : Oper)) (v := ?_) rfl (by kernel_rfl) (by kernel_rfl) (by kernel_rfl) (fun _ _ _ h => h) (Or.inl ⟨by rfl, ?_⟩) (by assumption) ?_
    rotate_left 1
    · intro w hSw; (try dsimp only at hSw); go_simp; try with_reducible rfl
    (try simp only [Act.put, List.setIfInBounds_toArray, List.set_cons_zero, List.set_cons_succ])
    refine wpAnyH_take (i := 5) (oi := ({ dst := some 21, op := Op.load 9 (Operand.tmp 20), type := 9, pos := "cost.go:45", after := #[{ on := 4, ground := Ground.data }], guard := none } : Oper)) (v := ?_) rfl (by kernel_rfl) (by kernel_rfl) (by kernel_rfl) (fun _ _ _ h => h) (Or.inl ⟨by rfl, ?_⟩) (by assumption) ?_
    rotate_left 1
    · intro w hSw; (try dsimp only at hSw); go_simp; try with_reducible rfl
    (try simp only [Act.put, List.setIfInBounds_toArray, List.set_cons_zero, List.set_cons_succ])
    refine wpAnyH_take (i := 6) (oi := ({ dst := some 22, op := Op.lookup 69 (Operand.tmp 19) (Operand.tmp 21) true, type := 87, pos := "cost.go:45", after := #[{ on := 3, ground := Ground.data }, { on := 5, ground := Ground.data }], guard := none } : Oper)) (v := ?_) rfl (by kernel_rfl) (by kernel_rfl) (by kernel_rfl) (fun _ _ _ h => h) (Or.inl ⟨by rfl, ?_⟩) (by assumption) ?_
    rotate_left 1
    · intro w hSw; (try dsimp only at hSw); go_simp; try with_reducible rfl
    (try simp only [Act.put, List.setIfInBounds_toArray, List.set_cons_zero, List.set_cons_succ])
    refine wpAnyH_take (i := 7) (oi := ({ dst := some 15, op := Op.move (Operand.tmp 22), type := 87, pos := "cost.go:45", after := #[{ on := 6, ground := Ground.data }], guard := none } : Oper)) (v := ?_) rfl (by kernel_rfl) (by kernel_rfl) (by kernel_rfl) (fun _ _ _ h => h) (Or.inl ⟨by rfl, ?_⟩) (by assumption) ?_
    rotate_left 1
    · intro w hSw; (try dsimp only at hSw); go_simp; try with_reducible rfl
    (try simp only [Act.put, List.setIfInBounds_toArray, List.set_cons_zero, List.set_cons_succ])
    refine wpAnyH_take (i := 8) (oi := ({ dst := some 23, op := Op.extract (Operand.tmp 15) 0, type := 26, pos := "cost.go:45", after := #[{ on := 7, ground := Ground.data }], guard := none } : Oper)) (v := ?_) rfl (by kernel_rfl) (by kernel_rfl) (by kernel_rfl) (fun _ _ _ h => h) (Or.inl ⟨by rfl, ?_⟩) (by assumption) ?_
    rotate_left 1
    · intro w hSw; (try dsimp only at hSw); go_simp; try with_reducible rfl
    (try simp only [Act.put, List.setIfInBounds_toArray, List.set_cons_zero, List.set_cons_succ])
    refine wpAnyH_take (i := 9) (oi := ({ dst := some 24, op := Op.extract (Operand.tmp 15) 1, type := 4, pos := "cost.go:45", after := #[{ on := 7, ground := Ground.data }, { on := 11, ground := Ground.gcOnly Departure.lateStores }], guard := none } : Oper)) (v := ?_) rfl (by kernel_rfl) (by kernel_rfl) (by kernel_rfl) (fun _ _ _ h => h) (Or.inl ⟨by rfl, ?_⟩) (by assumption) ?_
    rotate_left 1
    · intro w hSw; (try dsimp only at hSw); go_simp; try with_reducible rfl
    (try simp only [Act.put, List.setIfInBounds_toArray, List.set_cons_zero, List.set_cons_succ])
    --END
    refine wpAnyH_ready (rs := [10]) (by kernel_rfl) (by simp) ?_
    refine AllReadyH.cons (o := _) rfl (fun K hK => ?_) AllReadyH.nil
    go_simp
    have hb1 : Below W.heap.size W (W.alloc (.cells #[.int .i64 0, .int .i64 0, .int .i64 0] 26)).drew := ((Below.refl _ _).alloc (Nat.le_refl _) _).drew
    refine hK.out _ _ ⟨hb1, MK.out _ hb1⟩ (fun hHeld2 => ?_)
    clear hK K hHeld
    (try simp only [Act.put, List.setIfInBounds_toArray, List.set_cons_zero, List.set_cons_succ])
    refine wpAnyH_ready (rs := [11]) (by kernel_rfl) (by simp) ?_
    refine AllReadyH.cons (o := _) rfl (fun K hK => ?_) AllReadyH.nil
    go_simp
    have hb2 : Below W.heap.size W (W.alloc (.cells #[.int .i64 qc, .int .i64 ql, .int .i64 qd] 26)).drew := ((Below.refl _ _).alloc (Nat.le_refl _) _).drew
    refine hK.out _ _ ⟨hb2, MK.out _ hb2⟩ (fun hHeld => ?_)
    clear hK K hHeld2
    (try simp only [Act.put, List.setIfInBounds_toArray, List.set_cons_zero, List.set_cons_succ])
    --TAKES (*narthex/cost.sizes).ref:2 12
    refine wpAnyH_take (i := 12) (oi := ({ dst := some 7, op := Op.assign (Operand.tmp 24), type := 4, pos := "cost.go:45", after := #[{ on := 9, ground := Ground.data }, { on := 11, ground := Ground.chain }, { on := 0, ground := Ground.phase }, { on := 1, ground := Ground.phase }, { on := 2, ground := Ground.phase }, { on := 3, ground := Ground.phase }, { on := 4, ground := Ground.phase }, { on := 5, ground := Ground.phase }, { on := 6, ground := Ground.phase }, { on := 7, ground := Ground.phase }, { on := 8, ground := Ground.phase }, { on := 9, ground := Ground.phase }, { on := 10, ground := Ground.phase }, { on := 11, ground := Ground.phase }], guard := none } : Oper)) (v := ?_) rfl (by kernel_rfl) (by kernel_rfl) (by kernel_rfl) (fun _ _ _ h => h) (Or.inl ⟨by rfl, ?_⟩) (by assumption) ?_
    rotate_left 1
    · intro w hSw; (try dsimp only at hSw); go_simp; try with_reducible rfl
    (try simp only [Act.put, List.setIfInBounds_toArray, List.set_cons_zero, List.set_cons_succ])
    --END
    refine wpAnyH_done (by kernel_rfl) ?_ _
    have q0 : Blk3 (W.alloc (.cells #[.int .i64 qc, .int .i64 ql, .int .i64 qd] 26)).drew W.heap.size 26 (.int .i64 qc) (.int .i64 ql) (.int .i64 qd) := Blk3.new W _ _ _ _
    have q1 := B1.out.later hb2
    have hsz2 : (W.alloc (.cells #[.int .i64 qc, .int .i64 ql, .int .i64 qd] 26)).drew.heap.size = W.heap.size + 1 := by simp
    have HB2 := Lib.hid (HBW.out.trans (hb2.mono HBW.out.size))
    clear hb1 hb2 hHeld MK HK B0 B1 h0
    generalize (W.alloc (.cells #[.int .i64 qc, .int .i64 ql, .int .i64 qd] 26)).drew = W3 at *
    have y0 := q0.c0
    have y1 := q0.c1
    have y2 := q0.c2
    have r0 := q1.c0
    have r1 := q1.c1
    have r2 := q1.c2
    have n0 := q1.m0
    have n1 := q1.m1
    have n2 := q1.m2
    have hcc := And.intro y0 (And.intro y1 y2)
    have Q1 := Lib.hid q1
    clear q0 q1
    go_wp2_with fail
    go_region_held3 (fun V => V.cell? ⟨W.heap.size, 0, none⟩ = some (.int .i64 qc) ∧ V.cell? ⟨W.heap.size, 1, none⟩ = some (.int .i64 ql) ∧ V.cell? ⟨W.heap.size, 2, none⟩ = some (.int .i64 qd)) (first | exact hcc | exact ⟨store3_far hcc.1 (by have := HN.out; omega) _ _ _, store3_far hcc.2.1 (by have := HN.out; omega) _ _ _, store3_far hcc.2.2 (by have := HN.out; omega) _ _ _⟩) (first | (go_at_call 20; refine (add_nat _ _ _ hba hqc).mono ?_; rintro e w' ⟨rfl, rfl⟩))
    all_goals
      go_wp2
      have bE := Q1.out.store (.int .i64 (addM (b - a) qc : Nat)) (.int .i64 ql) (.int .i64 ((qd : Int) + 1))
      have HE := (below_store (b := w.heap.size + 1) HB2.out (by omega) (.int .i64 (addM (b - a) qc : Nat)) (.int .i64 ql) (.int .i64 ((qd : Int) + 1))).drew
      have bE : Blk3 (((W3.setCell ⟨w.heap.size + 1, 0, none⟩ (.int .i64 (addM (b - a) qc : Nat))).setCell ⟨w.heap.size + 1, 1, none⟩ (.int .i64 ql)).setCell ⟨w.heap.size + 1, 2, none⟩ (.int .i64 ((qd : Int) + 1))).drew (w.heap.size + 1) _ _ _ _ := bE
      generalize (((W3.setCell ⟨w.heap.size + 1, 0, none⟩ (.int .i64 (addM (b - a) qc : Nat))).setCell ⟨w.heap.size + 1, 1, none⟩ (.int .i64 ql)).setCell ⟨w.heap.size + 1, 2, none⟩ (.int .i64 ((qd : Int) + 1))).drew = V at bE HE ⊢
      have c0 := bE.c0
      have c1 := bE.c1
      have c2 := bE.c2
      refine bodyPost_ret (v := (refF f ⟨a, b, bs⟩).v) (by rw [RR.out]; simp [results, Tryd.results28, go_sem, c0, c1, c2]; rfl) rfl ?_
      exact ⟨rfl, HE⟩
  | false =>
    rw [if_neg (by decide)] at hib
    rw [hib] at hR
    have RR := Lib.hid hR
    clear hib hR hok
    go_enter Tryd.func28, Tryd.ntmps28
    go_upto_region 1 with (fail)
    clear hW
    go_wp2_with fail
    refine wp_region_held_drew (S := fun V => Below W.heap.size W V ∧ V.cell? ⟨zb, 0, none⟩ = some (.map (some M)) ∧ V.cell? ⟨w.heap.size, 2, none⟩ = some (.string s) ∧ (Instr.lookup 69 (.map (some M)) (.string s) true).run Tryd.prog V = .ok (.tuple #[.agg #[.int .i64 qc, .int .i64 ql, .int .i64 qd], .bool false]) V) (by kernel_rfl) ⟨(Below.refl _ _).drew, h0⟩ (fun hHeld => ?_)
    --TAKES (*narthex/cost.sizes).ref:2 0..9
    refine wpAnyH_take (i := 0) (oi := ({ dst := some 16, op := Op.move (Operand.tmp 0), type := 51, pos := "cost.go:45", after := #[], guard := none } : Oper)) (v := ?_) rfl (by kernel_rfl) (by kernel_rfl) (by kernel_rfl) (fun _ _ _ h => h) (Or.inl ⟨by rfl, ?_⟩) (by assumption) ?_
    rotate_left 1
    · intro w hSw; (try dsimp only at hSw); go_simp; try with_reducible rfl
    (try simp only [Act.put, List.setIfInBounds_toArray, List.set_cons_zero, List.set_cons_succ])
    refine wpAnyH_take (i := 1) (oi := ({ dst := some 17, op := Op.nilCheck (Operand.tmp 16), type := 0, pos := "cost.go:45", after := #[{ on := 0, ground := Ground.data }], guard := none } : Oper)) (v := ?_) rfl (by kernel_rfl) (by kernel_rfl) (by kernel_rfl) (fun _ _ _ h => h) (Or.inl ⟨by rfl, ?_⟩) (by assumption) ?_
    rotate_left 1
    · intro w hSw; (try dsimp only at hSw); go_simp; try with_reducible rfl
    (try simp only [Act.put, List.setIfInBounds_toArray, List.set_cons_zero, List.set_cons_succ])
    refine wpAnyH_take (i := 2) (oi := ({ dst := some 18, op := Op.fieldAddr 72 (Operand.tmp 17) 0, type := 0, pos := "cost.go:45", after := #[{ on := 1, ground := Ground.data }], guard := none } : Oper)) (v := ?_) rfl (by kernel_rfl) (by kernel_rfl) (by kernel_rfl) (fun _ _ _ h => h) (Or.inl ⟨by rfl, ?_⟩) (by assumption) ?_
    rotate_left 1
    · intro w hSw; (try dsimp only at hSw); go_simp; try with_reducible rfl
    (try simp only [Act.put, List.setIfInBounds_toArray, List.set_cons_zero, List.set_cons_succ])
    refine wpAnyH_take (i := 3) (oi := ({ dst := some 19, op := Op.load 69 (Operand.tmp 18), type := 69, pos := "cost.go:45", after := #[{ on := 2, ground := Ground.data }], guard := none } : Oper)) (v := ?_) rfl (by kernel_rfl) (by kernel_rfl) (by kernel_rfl) (fun _ _ _ h => h) (Or.inl ⟨by rfl, ?_⟩) (by assumption) ?_
    rotate_left 1
    · intro w hSw; (try dsimp only at hSw); go_simp; try with_reducible rfl
    (try simp only [Act.put, List.setIfInBounds_toArray, List.set_cons_zero, List.set_cons_succ])
    refine wpAnyH_take (i := 4) (oi := ({ dst := some 20, op := Op.fieldAddr 78 (Operand.tmp 3) 2, type := 0, pos := "cost.go:45", after := #[], guard := none } : Oper)) (v := ?_) rfl (by kernel_rfl) (by kernel_rfl) (by kernel_rfl) (fun _ _ _ h => h) (Or.inl ⟨by rfl, ?_⟩) (by assumption) ?_
    rotate_left 1
    · intro w hSw; (try dsimp only at hSw); go_simp; try with_reducible rfl
    (try simp only [Act.put, List.setIfInBounds_toArray, List.set_cons_zero, List.set_cons_succ])
    refine wpAnyH_take (i := 5) (oi := ({ dst := some 21, op := Op.load 9 (Operand.tmp 20), type := 9, pos := "cost.go:45", after := #[{ on := 4, ground := Ground.data }], guard := none } : Oper)) (v := ?_) rfl (by kernel_rfl) (by kernel_rfl) (by kernel_rfl) (fun _ _ _ h => h) (Or.inl ⟨by rfl, ?_⟩) (by assumption) ?_
    rotate_left 1
    · intro w hSw; (try dsimp only at hSw); go_simp; try with_reducible rfl
    (try simp only [Act.put, List.setIfInBounds_toArray, List.set_cons_zero, List.set_cons_succ])
    refine wpAnyH_take (i := 6) (oi := ({ dst := some 22, op := Op.lookup 69 (Operand.tmp 19) (Operand.tmp 21) true, type := 87, pos := "cost.go:45", after := #[{ on := 3, ground := Ground.data }, { on := 5, ground := Ground.data }], guard := none } : Oper)) (v := ?_) rfl (by kernel_rfl) (by kernel_rfl) (by kernel_rfl) (fun _ _ _ h => h) (Or.inl ⟨by rfl, ?_⟩) (by assumption) ?_
    rotate_left 1
    · intro w hSw; (try dsimp only at hSw); go_simp; try with_reducible rfl
    (try simp only [Act.put, List.setIfInBounds_toArray, List.set_cons_zero, List.set_cons_succ])
    refine wpAnyH_take (i := 7) (oi := ({ dst := some 15, op := Op.move (Operand.tmp 22), type := 87, pos := "cost.go:45", after := #[{ on := 6, ground := Ground.data }], guard := none } : Oper)) (v := ?_) rfl (by kernel_rfl) (by kernel_rfl) (by kernel_rfl) (fun _ _ _ h => h) (Or.inl ⟨by rfl, ?_⟩) (by assumption) ?_
    rotate_left 1
    · intro w hSw; (try dsimp only at hSw); go_simp; try with_reducible rfl
    (try simp only [Act.put, List.setIfInBounds_toArray, List.set_cons_zero, List.set_cons_succ])
    refine wpAnyH_take (i := 8) (oi := ({ dst := some 23, op := Op.extract (Operand.tmp 15) 0, type := 26, pos := "cost.go:45", after := #[{ on := 7, ground := Ground.data }], guard := none } : Oper)) (v := ?_) rfl (by kernel_rfl) (by kernel_rfl) (by kernel_rfl) (fun _ _ _ h => h) (Or.inl ⟨by rfl, ?_⟩) (by assumption) ?_
    rotate_left 1
    · intro w hSw; (try dsimp only at hSw); go_simp; try with_reducible rfl
    (try simp only [Act.put, List.setIfInBounds_toArray, List.set_cons_zero, List.set_cons_succ])
    refine wpAnyH_take (i := 9) (oi := ({ dst := some 24, op := Op.extract (Operand.tmp 15) 1, type := 4, pos := "cost.go:45", after := #[{ on := 7, ground := Ground.data }, { on := 11, ground := Ground.gcOnly Departure.lateStores }], guard := none } : Oper)) (v := ?_) rfl (by kernel_rfl) (by kernel_rfl) (by kernel_rfl) (fun _ _ _ h => h) (Or.inl ⟨by rfl, ?_⟩) (by assumption) ?_
    rotate_left 1
    · intro w hSw; (try dsimp only at hSw); go_simp; try with_reducible rfl
    (try simp only [Act.put, List.setIfInBounds_toArray, List.set_cons_zero, List.set_cons_succ])
    --END
    refine wpAnyH_ready (rs := [10]) (by kernel_rfl) (by simp) ?_
    refine AllReadyH.cons (o := _) rfl (fun K hK => ?_) AllReadyH.nil
    go_simp
    have hb1 : Below W.heap.size W (W.alloc (.cells #[.int .i64 0, .int .i64 0, .int .i64 0] 26)).drew := ((Below.refl _ _).alloc (Nat.le_refl _) _).drew
    refine hK.out _ _ ⟨hb1, MK.out _ hb1⟩ (fun hHeld2 => ?_)
    clear hK K hHeld
    (try simp only [Act.put, List.setIfInBounds_toArray, List.set_cons_zero, List.set_cons_succ])
    refine wpAnyH_ready (rs := [11]) (by kernel_rfl) (by simp) ?_
    refine AllReadyH.cons (o := _) rfl (fun K hK => ?_) AllReadyH.nil
    go_simp
    have hb2 : Below W.heap.size W (W.alloc (.cells #[.int .i64 qc, .int .i64 ql, .int .i64 qd] 26)).drew := ((Below.refl _ _).alloc (Nat.le_refl _) _).drew
    refine hK.out _ _ ⟨hb2, MK.out _ hb2⟩ (fun hHeld => ?_)
    clear hK K hHeld2
    (try simp only [Act.put, List.setIfInBounds_toArray, List.set_cons_zero, List.set_cons_succ])
    --TAKES (*narthex/cost.sizes).ref:2 12
    refine wpAnyH_take (i := 12) (oi := ({ dst := some 7, op := Op.assign (Operand.tmp 24), type := 4, pos := "cost.go:45", after := #[{ on := 9, ground := Ground.data }, { on := 11, ground := Ground.chain }, { on := 0, ground := Ground.phase }, { on := 1, ground := Ground.phase }, { on := 2, ground := Ground.phase }, { on := 3, ground := Ground.phase }, { on := 4, ground := Ground.phase }, { on := 5, ground := Ground.phase }, { on := 6, ground := Ground.phase }, { on := 7, ground := Ground.phase }, { on := 8, ground := Ground.phase }, { on := 9, ground := Ground.phase }, { on := 10, ground := Ground.phase }, { on := 11, ground := Ground.phase }], guard := none } : Oper)) (v := ?_) rfl (by kernel_rfl) (by kernel_rfl) (by kernel_rfl) (fun _ _ _ h => h) (Or.inl ⟨by rfl, ?_⟩) (by assumption) ?_
    rotate_left 1
    · intro w hSw; (try dsimp only at hSw); go_simp; try with_reducible rfl
    (try simp only [Act.put, List.setIfInBounds_toArray, List.set_cons_zero, List.set_cons_succ])
    --END
    refine wpAnyH_done (by kernel_rfl) ?_ _
    have q0 : Blk3 (W.alloc (.cells #[.int .i64 qc, .int .i64 ql, .int .i64 qd] 26)).drew W.heap.size 26 (.int .i64 qc) (.int .i64 ql) (.int .i64 qd) := Blk3.new W _ _ _ _
    have q1 := B1.out.later hb2
    have hsz2 : (W.alloc (.cells #[.int .i64 qc, .int .i64 ql, .int .i64 qd] 26)).drew.heap.size = W.heap.size + 1 := by simp
    have HB2 := Lib.hid (HBW.out.trans (hb2.mono HBW.out.size))
    have KK := Lib.hid (HK.out _ hb2)
    have z2 := (B0.out.later hb2).c2
    clear hb1 hb2 hHeld MK HK B0 B1 h0
    generalize (W.alloc (.cells #[.int .i64 qc, .int .i64 ql, .int .i64 qd] 26)).drew = W3 at *
    have r0 := q1.c0
    have r1 := q1.c1
    have r2 := q1.c2
    have n0 := q1.m0
    have n1 := q1.m1
    have n2 := q1.m2
    have Q1 := Lib.hid q1
    clear q0 q1
    go_wp2_with fail
    refine KK.out.mono ?_
    rintro e w4 ⟨rfl, hB4⟩
    have bV := Q1.out.later hB4
    have m0 := bV.m0
    have m1 := bV.m1
    have m2 := bV.m2
    have m3 := bV.c0
    have m4 := bV.c1
    have m5 := bV.c2
    have HV := Lib.hid (HB2.out.trans (hB4.mono HB2.out.size))
    have BV := Lib.hid bV
    clear bV hB4 Q1 r0 r1 r2 n0 n1 n2
    by_cases hkn : 0 < knownN s
    · have RR2 := Lib.hid (RR.out.trans (if_pos hkn))
      have hd : decide (0 < knownN s) = true := by simpa using hkn
      rw [hd]
      go_wp2
      have bE := BV.out.store (.int .i64 (b - a : Nat)) (.int .i64 1) (.int .i64 0)
      have HE := below_store (b := w.heap.size + 1) HV.out (by omega) (.int .i64 (b - a : Nat)) (.int .i64 1) (.int .i64 0)
      generalize ((w4.setCell ⟨w.heap.size + 1, 0, none⟩ (.int .i64 (b - a : Nat))).setCell ⟨w.heap.size + 1, 1, none⟩ (.int .i64 1)).setCell ⟨w.heap.size + 1, 2, none⟩ (.int .i64 0) = V at bE HE ⊢
      have c0 := bE.c0
      have c1 := bE.c1
      have c2 := bE.c2
      refine bodyPost_ret (v := (refF f ⟨a, b, bs⟩).v) (by rw [RR2.out]; simp [results, Tryd.results28, go_sem, c0, c1, c2]; rfl) rfl ?_
      exact ⟨rfl, HE⟩
    · have RR2 := Lib.hid (RR.out.trans (if_neg hkn))
      have hd : decide (0 < knownN s) = false := by simpa using hkn
      rw [hd]
      go_wp2
      have bE := BV.out.store (.int .i64 (b - a : Nat)) (.int .i64 (b - a : Nat)) (.int .i64 0)
      have HE := below_store (b := w.heap.size + 1) HV.out (by omega) (.int .i64 (b - a : Nat)) (.int .i64 (b - a : Nat)) (.int .i64 0)
      generalize ((w4.setCell ⟨w.heap.size + 1, 0, none⟩ (.int .i64 (b - a : Nat))).setCell ⟨w.heap.size + 1, 1, none⟩ (.int .i64 (b - a : Nat))).setCell ⟨w.heap.size + 1, 2, none⟩ (.int .i64 0) = V at bE HE ⊢
      have c0 := bE.c0
      have c1 := bE.c1
      have c2 := bE.c2
      refine bodyPost_ret (v := (refF f ⟨a, b, bs⟩).v) (by rw [RR2.out]; simp [results, Tryd.results28, go_sem, c0, c1, c2]; rfl) rfl ?_
      exact ⟨rfl, HE⟩
end Go.Proofs.YtkeclfhhilphpaaDoor
/- The contract of refs.All, with the row as one of the call's own. Conditions: the tables of chars and of utf hold what the text gives them. -/
namespace Go.Proofs.YtkeclfhhilphpaaDoor
open Go.RowKit Go.Proofs.YtkeclfhhilphpaaDoor.UtfPlain Go.Proofs.YtkeclfhhilphpaaDoor.CharsPlain Go.Proofs.YtkeclfhhilphpaaDoor.NamePlain Go.Proofs.YtkeclfhhilphpaaDoor.RefPlain
set_option linter.unusedVariables false
theorem own_lowC {w : World} {base base' : Nat} {e : TypeId} {size : Nat} {v : Value} {n : Nat} {xs : List Value} (h : w.ownsRow base e size v n xs) (hb : base' ≤ base) : w.ownsRow base' e size v n xs := by
  refine ⟨h.1, ?_⟩
  rcases h.2 with h2 | ⟨g, cap, cur, hv, hg, r⟩
  · exact .inl h2
  · exact .inr ⟨g, cap, cur, hv, Nat.le_trans hb hg, r⟩
def TellRefs (s : ByteArray) (w : World) (e : Ending) (w' : World) : Prop := ∃ A c, e = .returned (.slice A (refsN (bsOf s)).length c) ∧ w'.ownsRow w.heap.size 78 3 (.slice A (refsN (bsOf s)).length c) (refsN (bsOf s)).length (refCells (refsN (bsOf s))) ∧ Below w.heap.size w w'
theorem refsOwn_any (s : ByteArray) (w : World) (hlen : s.size ≤ 1048576) (hf : FormsAt w) (ht : Tabs w) :
    Calls Tryd.prog 29 #[.string s] w (TellRefs s w) := by
  have hB0 : Below w.heap.size w (w.alloc (.cells #[.string s] 9)) := (Below.refl _ w).alloc (Nat.le_refl _) _
  have hb := Boxed.new w 9 (.string s)
  have C := Lib.hid (appendSeq_any s w.heap.size _ hlen (by simp) hb.cell (hf.below hB0 hf.size) (ht.below hB0 ht.size))
  have HB := Lib.hid hB0
  clear hf ht hB0 hb
  go_enter Tryd.func29, Tryd.ntmps29
  go_wp2_with fail
  refine (each_any s w).mono ?_
  rintro e w1 ⟨rfl, rfl⟩
  go_wp2_with fail
  refine (show Calls Tryd.prog 37 _ _ (TellRefs s w) from ?_).mono ?_
  · go_enter Tryd.func37, Tryd.ntmps37
    go_wp2_with fail
    refine C.out.mono ?_
    rintro e w2 ⟨A, c, rfl, hrow, hB⟩
    have R := Lib.hid (own_lowC (base' := w.heap.size) hrow (by simp))
    have HB2 := Lib.hid (HB.out.trans (hB.mono HB.out.size))
    clear hrow hB
    go_wp2
    go_ret
    exact ⟨A, c, rfl, R.out, HB2.out⟩
  · rintro e w2 ⟨A, c, rfl, hR, hB⟩
    have R := Lib.hid hR
    have HB2 := Lib.hid hB
    clear hR hB
    go_wp2
    go_ret
    exact ⟨A, c, rfl, R.out, HB2.out⟩
end Go.Proofs.YtkeclfhhilphpaaDoor
/- cost's size of a text. Conditions: the sizes known are no more than the greatest number; the tables hold what the text gives them. -/
namespace Go.Proofs.YtkeclfhhilphpaaDoor
open Go.RowKit Go.Maps Go.Proofs.YtkeclfhhilphpaaDoor.RefPlain Go.Proofs.YtkeclfhhilphpaaDoor.GraphPlain
set_option linter.unusedVariables false
set_option linter.unusedSimpArgs false
/-- What stands while a text is gone through. -/
structure TxtAt (w0 w : World) (zb M n : Nat) (y z : Value) (D : DataW Value) (f : ByteArray → Option Sz) (A : Option Addr) (c : Nat) (l : List RefR) (all : Sz) : Prop where
  res : Blk3 w w0.heap.size 26 (.int .i64 0) (.int .i64 0) (.int .i64 0)
  all : Blk3 w (w0.heap.size + 1) 26 (.int .i64 all.c) (.int .i64 all.l) (.int .i64 all.d)
  row : w.ownsRow w0.heap.size 78 3 (.slice A l.length c) l.length (refCells l)
  zat : ZAt w zb M y z n D f
  known : KnownAt w
  below : Below w0.heap.size w0 w
  zlt : zb < w0.heap.size
  mlt : M < w0.heap.size
  klt : 0 < w0.heap.size
variable {w0 w w' : World} {zb M n : Nat} {y z : Value} {D : DataW Value} {f : ByteArray → Option Sz} {A : Option Addr} {c : Nat} {l : List RefR} {all : Sz}
theorem TxtAt.later (h : TxtAt w0 w zb M n y z D f A c l all) (hb : Below w.heap.size w w') : TxtAt w0 w' zb M n y z D f A c l all :=
  ⟨h.res.later hb, h.all.later hb, ownB_below h.row hb, h.zat.later hb, h.known.later hb, h.below.trans (hb.mono h.below.size), h.zlt, h.mlt, h.klt⟩
theorem TxtAt.store (h : TxtAt w0 w zb M n y z D f A c l all) (a2 : Sz) : TxtAt w0 (((w.setCell ⟨w0.heap.size + 1, 0, none⟩ (.int .i64 a2.c)).setCell ⟨w0.heap.size + 1, 1, none⟩ (.int .i64 a2.l)).setCell ⟨w0.heap.size + 1, 2, none⟩ (.int .i64 a2.d)) zb M n y z D f A c l a2 := by
  have hB := below_store (b := w0.heap.size + 1) (n := w0.heap.size + 1) (Below.refl _ w) (Nat.le_refl _) (.int .i64 a2.c) (.int .i64 a2.l) (.int .i64 a2.d)
  have hB0 := below_store (b := w0.heap.size + 1) h.below (Nat.le_succ _) (.int .i64 a2.c) (.int .i64 a2.l) (.int .i64 a2.d)
  have hr := (block_not_row h.all (by decide) h.row)
  refine ⟨h.res.below hB (by omega), h.all.store _ _ _, ?_, ?_, h.known.below hB (by have := h.klt; omega), hB0, h.zlt, h.mlt, h.klt⟩
  · exact ownsRow_setCell_other (ownsRow_setCell_other (ownsRow_setCell_other h.row (fun e => hr e.symm) _) (fun e => hr e.symm) _) (fun e => hr e.symm) _
  · refine ⟨h.zat.blk.below hB (by have := h.zlt; omega), ?_, h.zat.is⟩
    have hM := hB.block M (by have := h.mlt; omega)
    obtain ⟨es, clock, h1, r⟩ := h.zat.map
    exact ⟨es, clock, hM.trans h1, r⟩
theorem oneWorld (w : World) (t : TypeId) (x0 x1 x2 : Value) : ∃ W, w.alloc (.cells #[x0, x1, x2] t) = W ∧ W.heap.size = w.heap.size + 1 ∧ Below w.heap.size w W ∧ Blk3 W w.heap.size t x0 x1 x2 :=
  ⟨_, rfl, by simp, (Below.refl _ _).alloc (Nat.le_refl _) _, Blk3.new w t x0 x1 x2⟩
theorem Blk3.far {w : World} {b k : Nat} {t : TypeId} {x y z : Value} (h : Blk3 w b t x y z) (hne : b ≠ k) (u1 u2 u3 : Value) : Blk3 (((w.setCell ⟨k, 0, none⟩ u1).setCell ⟨k, 1, none⟩ u2).setCell ⟨k, 2, none⟩ u3) b t x y z :=
  ((Below.heap_setCell _ ⟨k, 2, none⟩ u3 b hne).trans ((Below.heap_setCell _ ⟨k, 1, none⟩ u2 b hne).trans (Below.heap_setCell w ⟨k, 0, none⟩ u1 b hne))).trans h
def TellAgg (c l d : Nat) (w : World) (e : Ending) (w' : World) : Prop := e = .returned (.agg #[.int .i64 c, .int .i64 l, .int .i64 d]) ∧ Below w.heap.size w w'
theorem mapLt {w : World} {n : Nat} {D : DataW Value} (h : w.ownsMap Tryd.prog 9 heldV M n D) : M < w.heap.size := h.lt
set_option maxHeartbeats 4000000 in
theorem text_any (s : ByteArray) (m : Nat) (w : World) (hz : ZAt w zb M y z n D f) (hk : KnownAt w) (hfm : FormsAt w) (ht : Tabs w) (hf : okF f m) (hm : m + 1 ≤ MX) (hs : s.size ≤ 1048576) :
    Calls Tryd.prog 17 #[.pointer (some ⟨zb, 0, none⟩), .string s] w (TellSz (sizeT (refF f) (bsOf s)) w) := by
  have hbl : (bsOf s).length = s.size := bsOf_len s
  have hMX : (bsOf s).length ≤ MX := by rw [hbl]; unfold MX; omega
  have hup := ref_upto hMX hf hm
  obtain ⟨W, hW, hsz, hBW, b0, b1⟩ := twoWorld w 26 26 (.int .i64 0) (.int .i64 0) (.int .i64 0) (.int .i64 0) (.int .i64 0) (.int .i64 0)
  have C := Lib.hid (refsOwn_any s W hs (hfm.below hBW hfm.size) (ht.below hBW ht.size))
  have X0 := Lib.hid (show ∀ w1 A c, w1.ownsRow W.heap.size 78 3 (.slice A (refsN (bsOf s)).length c) (refsN (bsOf s)).length (refCells (refsN (bsOf s))) → Below W.heap.size W w1 → TxtAt w w1 zb M n y z D f A c (refsN (bsOf s)) ⟨0, 0, 0⟩ from
    fun w1 A c ho hB => ⟨b0.later hB, b1.later hB, own_lowC ho (by omega), (hz.later hBW).later hB, (hk.later hBW).later hB, hBW.trans (hB.mono (by omega)), hz.blk.lt, mapLt hz.map, hk.size⟩)
  have UP := Lib.hid hup
  have F := Lib.hid hf
  have HN := Lib.hid hsz
  have HL := Lib.hid hbl
  have HX := Lib.hid hMX
  clear hz hk hfm ht hf b0 b1 hBW hup hsz hbl hMX
  go_enter Tryd.func17, Tryd.ntmps17
  go_upto_region 4 with (fail)
  clear hW
  go_wp2_with fail
  refine C.out.mono ?_
  rintro e w1 ⟨A, c, rfl, hrow, hB⟩
  have T0 := Lib.hid (X0.out w1 A c hrow hB)
  clear hrow hB X0 C
  have hln : (refsN (bsOf s)).length ≤ 9223372036854775806 := by have := refsN_len (bsOf s); have := HL.out; omega
  have AT := Lib.hid (show ∀ k x, (refsN (bsOf s))[k]? = some x → (accZ (refF f) ((refsN (bsOf s)).take k)).2 ≤ x.a ∧ x.a ≤ x.b ∧ x.b ≤ s.size ∧ (strOfNums x.s).size ≤ maxLen ∧ (refF f x).upto (m + 1) ∧ accZ (refF f) ((refsN (bsOf s)).take (k + 1)) = (sumZ (sumZ (accZ (refF f) ((refsN (bsOf s)).take k)).1 (gapZ (x.a - (accZ (refF f) ((refsN (bsOf s)).take k)).2))) (refF f x), x.b) from
    fun k x hx => by
      obtain ⟨h1, h2, h3⟩ := acc_at (refF f) (bsOf s) hx
      refine ⟨h1, h2, by have := HL.out; omega, ?_, UP.out x (List.mem_of_getElem? hx), accZ_next hx⟩
      have h4 : strOfNums x.s ∈ namesOf s := List.mem_map.2 ⟨x, List.mem_of_getElem? hx, rfl⟩
      have h5 := namesOf_size h4
      unfold maxLen; omega)
  have AU := Lib.hid (acc_upto HX.out UP.out)
  have AE := Lib.hid (show sizeT (refF f) (bsOf s) = sumZ (accZ (refF f) ((refsN (bsOf s)).take (refsN (bsOf s)).length)).1 (gapZ (s.size - (accZ (refF f) ((refsN (bsOf s)).take (refsN (bsOf s)).length)).2)) ∧ (accZ (refF f) ((refsN (bsOf s)).take (refsN (bsOf s)).length)).2 ≤ s.size from by
    rw [sizeT_acc, List.take_length, HL.out]
    refine ⟨rfl, ?_⟩
    have := acc_end (refF f) (bsOf s)
    have := HL.out; omega)
  have T0 := Lib.hid (show TxtAt w w1 zb M n y z D f A c (refsN (bsOf s)) (accZ (refF f) ((refsN (bsOf s)).take 0)).1 from T0.out)
  have P0 : (accZ (refF f) ((refsN (bsOf s)).take 0)).2 = 0 := rfl
  generalize refsN (bsOf s) = l at *
  go_wp2_with fail
  go_loopw [6, 15] (fun v6 i wr => ∃ (k : Nat), k ≤ l.length ∧ i = .int .i64 k ∧ (∃ q : Nat, v6 = .int .i64 q ∧ Hid (q = (accZ (refF f) (l.take k)).2)) ∧ Hid (TxtAt w wr zb M n y z D f A c l (accZ (refF f) (l.take k)).1)) (fun _ i _ => l.length - (intOf i).toNat)
  case atStart => exact ⟨0, Nat.zero_le _, rfl, ⟨0, rfl, Lib.hid P0.symm⟩, T0⟩
  case round =>
    obtain ⟨k, hk, rfl, ⟨q, rfl, HQ⟩, HT⟩ := hrel
    by_cases hlt : k < l.length
    · have hx : l[k]? = some l[k] := List.getElem?_eq_getElem hlt
      obtain ⟨f1, f2, f3, f4, f5, f6⟩ := AT.out k _ hx
      have hR := RefsAt.of_own HT.out.row
      obtain ⟨a, x, rfl, hx2, hblk, g0, g1, g2⟩ := hR.2 k hlt
      have hxe : x = l[k] := Option.some.inj (hx2.symm.trans hx)
      rw [← hxe] at f1 f2 f3 f4 f5 f6
      rw [← HQ.out] at f1 f6
      have b0 : (0 : Int) ≤ (k : Int) := by omega
      have b1 : (k : Int) < (l.length : Int) := by omega
      have hac := AU.out k
      have hT := HT.out
      generalize (accZ (refF f) (l.take k)).1 = al at hT hac f6
      obtain ⟨ac, aL, ad⟩ := al
      have e1 : (x.a : Int) - (q : Int) = ((x.a - q : Nat) : Int) := by omega
      have ga := f5.ok hm
      have gb := hac.ok hm
      have gg := (gap_upto (n := x.a - q) (m := m + 1) (by unfold MX; omega)).ok hm
      have gs := (sum_upto hac (gap_upto (n := x.a - q) (m := m + 1) (by unfold MX; omega))).ok hm
      obtain ⟨V, hV, hsV, hBV, bV⟩ := oneWorld wr 78 (.int .i64 x.a) (.int .i64 x.b) (.string (strOfNums x.s))
      have TV := hT.later hBV
      have C1 := Lib.hid (show ∀ U, Calls Tryd.prog 9 #[.agg #[.int .i64 ac, .int .i64 aL, .int .i64 ad], .agg #[.int .i64 (x.a - q : Nat), .int .i64 (x.a - q : Nat), .int .i64 0]] U (TellSz (sumZ ⟨ac, aL, ad⟩ (gapZ (x.a - q))) U) from fun U => sum_any ⟨ac, aL, ad⟩ (gapZ (x.a - q)) U gb gg)
      have C2 := Lib.hid (fun U (hU : Below V.heap.size V U) => ref_any zb M n y z D f x m U (TV.later hU).zat (TV.later hU).known F.out hm f2 (by unfold MX; omega) f4)
      have C3 := sum_any (sumZ ⟨ac, aL, ad⟩ (gapZ (x.a - q))) (refF f x)
      generalize hs3 : sumZ (sumZ ⟨ac, aL, ad⟩ (gapZ (x.a - q))) (refF f x) = s3 at C3 f6
      obtain ⟨c3, l3, d3⟩ := s3
      have C3 := Lib.hid (show ∀ U, Calls Tryd.prog 9 #[(sumZ ⟨ac, aL, ad⟩ (gapZ (x.a - q))).v, (refF f x).v] U (TellAgg c3 l3 d3 U) from fun U => C3 U gs ga)
      have HF6 := Lib.hid f6
      have r0 := bV.c0
      have r1 := bV.c1
      have r2 := bV.c2
      have s0 := TV.all.c0
      have s1 := TV.all.c1
      have s2 := TV.all.c2
      have TT := Lib.hid TV
      have BV := Lib.hid bV
      have xa : (x.a : Int) ≤ 9223372036854775807 := by omega
      have xq : (q : Int) ≤ (x.a : Int) := by omega
      have xw : IntKind.i64.wrap ((x.a - q : Nat) : Int) = ((x.a - q : Nat) : Int) := by simp only [IntKind.wrap, IntKind.bits, IntKind.signed]; simp; omega
      have xl : (-9223372036854775808 : Int) ≤ ((x.a - q : Nat) : Int) := by omega
      have xg : ((x.a - q : Nat) : Int) ≤ 9223372036854775807 := by omega
      clear TV bV hT hac f6 f5 f4 f3 f2 f1 ga gb gg gs hR hx hxe hx2 hs3 hBV hsV
      go_upto_region 7 with (fail)
      clear hV
      have MK := Lib.hid (fun V' (hb : Below V.heap.size V V') => (⟨(TT.out.later hb).all.c0, (TT.out.later hb).all.c1, (TT.out.later hb).all.c2, (BV.out.later hb).c0, (BV.out.later hb).c1, (BV.out.later hb).c2⟩ : V'.cell? ⟨w.heap.size + 1, 0, none⟩ = some (.int .i64 ac) ∧ V'.cell? ⟨w.heap.size + 1, 1, none⟩ = some (.int .i64 aL) ∧ V'.cell? ⟨w.heap.size + 1, 2, none⟩ = some (.int .i64 ad) ∧ V'.cell? ⟨wr.heap.size, 0, none⟩ = some (.int .i64 x.a) ∧ V'.cell? ⟨wr.heap.size, 1, none⟩ = some (.int .i64 x.b) ∧ V'.cell? ⟨wr.heap.size, 2, none⟩ = some (.string (strOfNums x.s))))
      have hd0 : Below V.heap.size V V.drew := (Below.refl _ _).drew
      clear r0 r1 r2 s0 s1 s2
      refine wp_region_late [(15, fun V' => V'.cell? ⟨w.heap.size + 1, 0, none⟩ = some (.int .i64 ac) ∧ V'.cell? ⟨w.heap.size + 1, 1, none⟩ = some (.int .i64 aL) ∧ V'.cell? ⟨w.heap.size + 1, 2, none⟩ = some (.int .i64 ad) ∧ V'.cell? ⟨wr.heap.size, 0, none⟩ = some (.int .i64 x.a) ∧ V'.cell? ⟨wr.heap.size, 1, none⟩ = some (.int .i64 x.b) ∧ V'.cell? ⟨wr.heap.size, 2, none⟩ = some (.string (strOfNums x.s)))] (by kernel_rfl) ⟨.inr (MK.out _ hd0), trivial⟩ (fun hC0 => ?_)
      --REG (*narthex/cost.sizes).text:7 0@0 1 2@0 3 4 5 6@0 7 8 9 11 12@0
      refine wpAnyL_take (i := 0) 0 (oi := ({ dst := some 19, op := Op.load 26 (Operand.tmp 5), type := 26, pos := "cost.go:60", after := #[], guard := none } : Oper)) (v := ?_) rfl (by kernel_rfl) (by kernel_rfl) (by kernel_rfl) rfl (by kernel_rfl) (by kernel_rfl) (by kernel_rfl) (fun _ _ _ h => h) (Or.inl ⟨by rfl, ?_⟩) (by assumption) (by kernel_rfl) ?_
      rotate_left 1
      · intro w hSw; (try dsimp only at hSw); go_simp; try with_reducible rfl
      (try simp only [Act.put, List.setIfInBounds_toArray, List.set_cons_zero, List.set_cons_succ])
      refine wpAnyL_pure (i := 1) (oi := ({ dst := some 20, op := Op.fieldAddr 78 (Operand.tmp 9) 0, type := 0, pos := "cost.go:60", after := #[], guard := none } : Oper)) (v := ?_) rfl (by kernel_rfl) (by kernel_rfl) (by kernel_rfl) (by kernel_rfl) (fun _ _ _ h => h) (Or.inl ⟨by rfl, ?_⟩) (by assumption) (by kernel_rfl) ?_
      rotate_left 1
      · intro w hSw; clear hSw; go_simp; try with_reducible rfl
      (try simp only [Act.put, List.setIfInBounds_toArray, List.set_cons_zero, List.set_cons_succ])
      refine wpAnyL_take (i := 2) 0 (oi := ({ dst := some 21, op := Op.load 3 (Operand.tmp 20), type := 3, pos := "cost.go:60", after := #[{ on := 1, ground := Ground.data }], guard := none } : Oper)) (v := ?_) rfl (by kernel_rfl) (by kernel_rfl) (by kernel_rfl) rfl (by kernel_rfl) (by kernel_rfl) (by kernel_rfl) (fun _ _ _ h => h) (Or.inl ⟨by rfl, ?_⟩) (by assumption) (by kernel_rfl) ?_
      rotate_left 1
      · intro w hSw; (try dsimp only at hSw); go_simp; try with_reducible rfl
      (try simp only [Act.put, List.setIfInBounds_toArray, List.set_cons_zero, List.set_cons_succ])
      refine wpAnyL_pure (i := 3) (oi := ({ dst := some 22, op := Op.move (Operand.tmp 6), type := 3, pos := "cost.go:60", after := #[], guard := none } : Oper)) (v := ?_) rfl (by kernel_rfl) (by kernel_rfl) (by kernel_rfl) (by kernel_rfl) (fun _ _ _ h => h) (Or.inl ⟨by rfl, ?_⟩) (by assumption) (by kernel_rfl) ?_
      rotate_left 1
      · intro w hSw; clear hSw; go_simp; try with_reducible rfl
      (try simp only [Act.put, List.setIfInBounds_toArray, List.set_cons_zero, List.set_cons_succ])
      refine wpAnyL_pure (i := 4) (oi := ({ dst := some 23, op := Op.binOp BinOp.sub 3 (Operand.tmp 21) (Operand.tmp 22) 3, type := 3, pos := "cost.go:60", after := #[{ on := 2, ground := Ground.data }, { on := 3, ground := Ground.data }], guard := none } : Oper)) (v := ?_) rfl (by kernel_rfl) (by kernel_rfl) (by kernel_rfl) (by kernel_rfl) (fun _ _ _ h => h) (Or.inl ⟨by rfl, ?_⟩) (by assumption) (by kernel_rfl) ?_
      rotate_left 1
      · intro w hSw; clear hSw; go_simp; try with_reducible rfl
      (try simp only [Act.put, List.setIfInBounds_toArray, List.set_cons_zero, List.set_cons_succ])
      refine wpAnyL_pure (i := 5) (oi := ({ dst := some 24, op := Op.fieldAddr 78 (Operand.tmp 9) 0, type := 0, pos := "cost.go:60", after := #[], guard := none } : Oper)) (v := ?_) rfl (by kernel_rfl) (by kernel_rfl) (by kernel_rfl) (by kernel_rfl) (fun _ _ _ h => h) (Or.inl ⟨by rfl, ?_⟩) (by assumption) (by kernel_rfl) ?_
      rotate_left 1
      · intro w hSw; clear hSw; go_simp; try with_reducible rfl
      (try simp only [Act.put, List.setIfInBounds_toArray, List.set_cons_zero, List.set_cons_succ])
      refine wpAnyL_take (i := 6) 0 (oi := ({ dst := some 25, op := Op.load 3 (Operand.tmp 24), type := 3, pos := "cost.go:60", after := #[{ on := 5, ground := Ground.data }], guard := none } : Oper)) (v := ?_) rfl (by kernel_rfl) (by kernel_rfl) (by kernel_rfl) rfl (by kernel_rfl) (by kernel_rfl) (by kernel_rfl) (fun _ _ _ h => h) (Or.inl ⟨by rfl, ?_⟩) (by assumption) (by kernel_rfl) ?_
      rotate_left 1
      · intro w hSw; (try dsimp only at hSw); go_simp; try with_reducible rfl
      (try simp only [Act.put, List.setIfInBounds_toArray, List.set_cons_zero, List.set_cons_succ])
      refine wpAnyL_pure (i := 7) (oi := ({ dst := some 26, op := Op.move (Operand.tmp 6), type := 3, pos := "cost.go:60", after := #[], guard := none } : Oper)) (v := ?_) rfl (by kernel_rfl) (by kernel_rfl) (by kernel_rfl) (by kernel_rfl) (fun _ _ _ h => h) (Or.inl ⟨by rfl, ?_⟩) (by assumption) (by kernel_rfl) ?_
      rotate_left 1
      · intro w hSw; clear hSw; go_simp; try with_reducible rfl
      (try simp only [Act.put, List.setIfInBounds_toArray, List.set_cons_zero, List.set_cons_succ])
      refine wpAnyL_pure (i := 8) (oi := ({ dst := some 27, op := Op.binOp BinOp.sub 3 (Operand.tmp 25) (Operand.tmp 26) 3, type := 3, pos := "cost.go:60", after := #[{ on := 6, ground := Ground.data }, { on := 7, ground := Ground.data }], guard := none } : Oper)) (v := ?_) rfl (by kernel_rfl) (by kernel_rfl) (by kernel_rfl) (by kernel_rfl) (fun _ _ _ h => h) (Or.inl ⟨by rfl, ?_⟩) (by assumption) (by kernel_rfl) ?_
      rotate_left 1
      · intro w hSw; clear hSw; go_simp; try with_reducible rfl
      (try simp only [Act.put, List.setIfInBounds_toArray, List.set_cons_zero, List.set_cons_succ])
      refine wpAnyL_pure (i := 9) (oi := ({ dst := some 28, op := Op.build 26 #[(0, Operand.tmp 23), (1, Operand.tmp 27)], type := 26, pos := "cost.go:60", after := #[{ on := 4, ground := Ground.data }, { on := 8, ground := Ground.data }], guard := none } : Oper)) (v := ?_) rfl (by kernel_rfl) (by kernel_rfl) (by kernel_rfl) (by kernel_rfl) (fun _ _ _ h => h) (Or.inl ⟨by rfl, ?_⟩) (by assumption) (by kernel_rfl) ?_
      rotate_left 1
      · intro w hSw; clear hSw; go_simp; try with_reducible rfl
      (try simp only [Act.put, List.setIfInBounds_toArray, List.set_cons_zero, List.set_cons_succ])
      refine wpAnyL_pure (i := 11) (oi := ({ dst := some 30, op := Op.move (Operand.tmp 7), type := 74, pos := "cost.go:60", after := #[], guard := none } : Oper)) (v := ?_) rfl (by kernel_rfl) (by kernel_rfl) (by kernel_rfl) (by kernel_rfl) (fun _ _ _ h => h) (Or.inl ⟨by rfl, ?_⟩) (by assumption) (by kernel_rfl) ?_
      rotate_left 1
      · intro w hSw; clear hSw; go_simp; try with_reducible rfl
      (try simp only [Act.put, List.setIfInBounds_toArray, List.set_cons_zero, List.set_cons_succ])
      refine wpAnyL_take (i := 12) 0 (oi := ({ dst := some 31, op := Op.load 78 (Operand.tmp 9), type := 78, pos := "cost.go:60", after := #[], guard := none } : Oper)) (v := ?_) rfl (by kernel_rfl) (by kernel_rfl) (by kernel_rfl) rfl (by kernel_rfl) (by kernel_rfl) (by kernel_rfl) (fun _ _ _ h => h) (Or.inl ⟨by rfl, ?_⟩) (by assumption) (by kernel_rfl) ?_
      rotate_left 1
      · intro w hSw; (try dsimp only at hSw); go_simp; try with_reducible rfl
      (try simp only [Act.put, List.setIfInBounds_toArray, List.set_cons_zero, List.set_cons_succ])
      --END
      refine wpAnyL_ready (rs := [10]) (by kernel_rfl) (by simp) ?_
      refine AllReadyL.cons (o := _) rfl (fun K hK => ?_) AllReadyL.nil
      go_simp
      refine (C1.out _).mono ?_
      rintro e w2 ⟨rfl, hB2⟩
      have hd2 := hd0.trans (hB2.mono hd0.size)
      refine hK.out _ _ ⟨.inr (MK.out _ hd2), trivial⟩ (fun hC1 => ?_)
      clear hK K hC0
      (try simp only [Act.put, List.setIfInBounds_toArray, List.set_cons_zero, List.set_cons_succ])
      refine wpAnyL_ready (rs := [13]) (by kernel_rfl) (by simp) ?_
      refine AllReadyL.cons (o := _) rfl (fun K hK => ?_) AllReadyL.nil
      go_simp
      refine (C2.out _ hd2).mono ?_
      rintro e w3 ⟨rfl, hB3⟩
      have hd3 := hd2.trans (hB3.mono hd2.size)
      refine hK.out _ _ ⟨.inr (MK.out _ hd3), trivial⟩ (fun hC2 => ?_)
      clear hK K hC1
      (try simp only [Act.put, List.setIfInBounds_toArray, List.set_cons_zero, List.set_cons_succ])
      refine wpAnyL_ready (rs := [14]) (by kernel_rfl) (by simp) ?_
      refine AllReadyL.cons (o := _) rfl (fun K hK => ?_) AllReadyL.nil
      go_simp
      refine (C3.out _).mono ?_
      rintro e w4 ⟨rfl, hB4⟩
      have hd4 := hd3.trans (hB4.mono hd3.size)
      refine hK.out _ _ ⟨.inr (MK.out _ hd4), trivial⟩ (fun hC3 => ?_)
      clear hK K hC2
      have TW := TT.out.later hd4
      have BW := Lib.hid (BV.out.later hd4)
      have s0 := TW.all.c0
      have s1 := TW.all.c1
      have s2 := TW.all.c2
      have m0 := TW.all.m0
      have m1 := TW.all.m1
      have m2 := TW.all.m2
      have TS := Lib.hid (TW.store ⟨c3, l3, d3⟩)
      have TW := Lib.hid TW
      (try simp only [Act.put, List.setIfInBounds_toArray, List.set_cons_zero, List.set_cons_succ])
      refine wpAnyL_ready (rs := [15]) (by kernel_rfl) (by simp) ?_
      refine AllReadyL.cons (o := _) rfl (fun K hK => ?_) AllReadyL.nil
      go_simp
      refine hK.out _ _ ⟨.inl (by rfl), trivial⟩ (fun hC4 => ?_)
      clear hK K hC3
      (try simp only [Act.put, List.setIfInBounds_toArray, List.set_cons_zero, List.set_cons_succ])
      refine wpAnyL_done (by kernel_rfl) ?_ _
      have hne : wr.heap.size ≠ w.heap.size + 1 := by have := HT.out.all.lt; omega
      have BS := BW.out.far hne (.int .i64 c3) (.int .i64 l3) (.int .i64 d3)
      have TS2 := TS.out
      clear hC4 TS TW s0 s1 s2 m0 m1 m2 hd0 hd2 hd3 hd4 hB2 hB3 hB4 MK BW BV
      generalize ((w4.setCell ⟨w.heap.size + 1, 0, none⟩ (.int .i64 c3)).setCell ⟨w.heap.size + 1, 1, none⟩ (.int .i64 l3)).setCell ⟨w.heap.size + 1, 2, none⟩ (.int .i64 d3) = U at BS TS2 ⊢
      have q1 := BS.c1
      have TU := Lib.hid TS2
      clear BS TS2 hne
      go_wp2
      go_roundw
      case rel => exact ⟨k + 1, by omega, by go_num, ⟨x.b, rfl, Lib.hid (by rw [HF6.out])⟩, Lib.hid (by rw [HF6.out]; exact TU.out)⟩
      case measure => simp [intOf]; omega
    · obtain rfl : k = l.length := by omega
      have hac := AU.out l.length
      have hT := HT.out
      have hE := AE.out
      rw [← HQ.out] at hE
      generalize (accZ (refF f) (l.take l.length)).1 = al at hT hac hE
      obtain ⟨ac, aL, ad⟩ := al
      obtain ⟨hE, hq⟩ := hE
      have e1 : (s.size : Int) - (q : Int) = ((s.size - q : Nat) : Int) := by omega
      have gb := hac.ok hm
      have gg := (gap_upto (n := s.size - q) (m := m + 1) (by unfold MX; omega)).ok hm
      have gs := sum_any ⟨ac, aL, ad⟩ (gapZ (s.size - q))
      rw [← hE] at gs
      have C1 := Lib.hid (show ∀ U, Calls Tryd.prog 9 #[.agg #[.int .i64 ac, .int .i64 aL, .int .i64 ad], .agg #[.int .i64 (s.size - q : Nat), .int .i64 (s.size - q : Nat), .int .i64 0]] U (TellSz (sizeT (refF f) (bsOf s)) U) from fun U => gs U gb gg)
      have s0 := hT.all.c0
      have s1 := hT.all.c1
      have s2 := hT.all.c2
      have HT := Lib.hid hT
      clear hT hE gb gg gs hac
      go_wp2_with fail
      refine (C1.out _).mono ?_
      rintro e w2 ⟨rfl, hB2⟩
      have TW := HT.out.later hB2
      have m0 := TW.res.m0
      have m1 := TW.res.m1
      have m2 := TW.res.m2
      have r0 := TW.res.c0
      have r1 := TW.res.c1
      have r2 := TW.res.c2
      have hR := TW.res
      have hBW := TW.below
      generalize sizeT (refF f) (bsOf s) = z at *
      obtain ⟨zc, zl, zd⟩ := z
      have bE := hR.store (.int .i64 zc) (.int .i64 zl) (.int .i64 zd)
      have HE := Lib.hid (below_store hBW (Nat.le_refl _) (.int .i64 zc) (.int .i64 zl) (.int .i64 zd))
      have BE := Lib.hid bE
      clear bE hR hBW TW hB2
      dsimp only [Sz.v]
      go_wp2
      have bE := BE.out
      have hE := HE.out
      clear BE HE
      generalize ((w2.setCell ⟨w.heap.size, 0, none⟩ (.int .i64 zc)).setCell ⟨w.heap.size, 1, none⟩ (.int .i64 zl)).setCell ⟨w.heap.size, 2, none⟩ (.int .i64 zd) = V at bE hE ⊢
      have c0 := bE.c0
      have c1 := bE.c1
      have c2 := bE.c2
      refine bodyPost_ret (v := (⟨zc, zl, zd⟩ : Sz).v) (by simp [results, Tryd.results17, go_sem, c0, c1, c2]; rfl) rfl ?_
      exact ⟨rfl, hE⟩
end Go.Proofs.YtkeclfhhilphpaaDoor
/- cost.begun: what stands in its first loop. Conditions: none. -/
namespace Go.Proofs.YtkeclfhhilphpaaDoor
open Go.RowKit Go.Maps Go.Proofs.YtkeclfhhilphpaaDoor.RefPlain Go.Proofs.YtkeclfhhilphpaaDoor.GraphPlain
set_option linter.unusedVariables false
set_option linter.unusedSimpArgs false
structure BegA (W2 w : World) (l : List Ent) (A : Option Addr) (n c k m : Nat) (D : DataW Unit) : Prop where
  below : Below W2.heap.size W2 w
  blk : Blk3 w (W2.heap.size + 1 + 1) 72 (.map (some W2.heap.size)) (.map (some (W2.heap.size + 1))) (.slice A n c)
  of : w.ownsMap Tryd.prog 9 heldV W2.heap.size 0 (.map [])
  texts : w.ownsMap Tryd.prog 9 (plainElem (H := Unit) Tryd.prog 3) (W2.heap.size + 1) m D
  few : m ≤ k
  key : KeyP D l (innerN (l.take k))
theorem map_kept {H : Type} {w w' : World} {n M : Nat} {D : DataW H} {R : Value → Option (DataW H × List MemPlace)} (h : w.ownsMap Tryd.prog 9 R M n D) (hb : w'.heap[M]? = w.heap[M]?) : w'.ownsMap Tryd.prog 9 R M n D := by
  obtain ⟨es, clock, h1, r⟩ := h
  exact ⟨es, clock, hb.trans h1, r⟩
variable {W2 w w' : World} {l : List Ent} {A : Option Addr} {n c k m : Nat} {D : DataW Unit}
theorem BegA.later (h : BegA W2 w l A n c k m D) (hb : Below w.heap.size w w') : BegA W2 w' l A n c k m D :=
  ⟨h.below.trans (hb.mono h.below.size), h.blk.later hb, map_kept h.of (hb.block _ h.of.lt), map_kept h.texts (hb.block _ h.texts.lt), h.few, h.key⟩
theorem BegA.pass (h : BegA W2 w l A n c k m D) (hk : innerN (l.take (k + 1)) = innerN (l.take k)) : BegA W2 w l A n c (k + 1) m D :=
  ⟨h.below, h.blk, h.of, h.texts, Nat.le_succ_of_le h.few, by rw [hk]; exact h.key⟩
theorem BegA.mapped {x : Ent} (h : BegA W2 w l A n c k m D) (hx : l[k]? = some x) (ho : x.out = false) (hn : hasT ((innerN (l.take k)).map Ent.na) x.na = false)
    (hm : w'.ownsMap Tryd.prog 9 (plainElem (H := Unit) Tryd.prog 3) (W2.heap.size + 1) (m + 1) (D.put (.string x.na.data.toList) (.lit (.int .i64 k)))) (hg : w.grownBy w' (some (W2.heap.size + 1))) :
    BegA W2 w' l A n c (k + 1) (m + 1) (D.put (.string x.na.data.toList) (.lit (.int .i64 k))) := by
  have hi : innerN (l.take (k + 1)) = innerN (l.take k) ++ [x] := by
    rw [innerN_next hx]; unfold addE; rw [if_neg (by rw [ho, hn]; simp)]
  refine ⟨h.below.grown hg h.below.size (fun g e => by cases e; omega), (hg.block _ h.blk.lt (by simp)).trans h.blk, map_kept h.of (hg.block _ h.of.lt (by simp)), hm, Nat.succ_le_succ h.few, ?_⟩
  rw [hi]
  exact h.key.put h.texts.isMap hx hn
/-- A look-up in the map of places. -/
theorem tx_look {M : Nat} (hM : w.ownsMap Tryd.prog 9 (plainElem (H := Unit) Tryd.prog 3) M m D) (s : ByteArray) (hs : s.size ≤ maxLen) :
    ∃ v : Int, (Instr.lookup 70 (.map (some M)) (.string s) true).run Tryd.prog w = .ok (.tuple #[.int .i64 v, .bool (Maps.has D (.string s.data.toList))]) w ∧ D.atKey (.string s.data.toList) (.lit (.int .i64 0)) = .lit (.int .i64 v) := by
  have hkey : keyOf Tryd.prog 9 (.string s) = some (.string s.data.toList) := WideMaps.keyOf_string_mk Tryd.underlying9 hs
  obtain ⟨vv, ps, hrun, hR⟩ := hM.look_ok lawT Tryd.underlying70 (zeroT _) (zd := .lit (.int .i64 0)) (zp := []) (plainElem_int Tryd.underlying3 (by decide)) hkey
  obtain ⟨v, rfl, h2, _⟩ := plainElem_int_inv Tryd.underlying3 hR
  exact ⟨v, hrun, congrArg Prod.fst h2⟩
theorem tx_looks {M m : Nat} {D : DataW Unit} (P : World → Prop) (hP : ∀ V, P V → V.ownsMap Tryd.prog 9 (plainElem (H := Unit) Tryd.prog 3) M m D) (s : ByteArray) (hs : s.size ≤ maxLen) :
    ∃ v : Int, ∀ V, P V → (Instr.lookup 70 (.map (some M)) (.string s) true).run Tryd.prog V = .ok (.tuple #[.int .i64 v, .bool (Maps.has D (.string s.data.toList))]) V := by
  by_cases h : ∃ V, P V
  · obtain ⟨V0, h0⟩ := h
    obtain ⟨v, _, e0⟩ := tx_look (hP V0 h0) s hs
    refine ⟨v, fun V hV => ?_⟩
    obtain ⟨v', h1, e1⟩ := tx_look (hP V hV) s hs
    rw [e0] at e1
    rw [litInt e1]; exact h1
  · exact ⟨0, fun V hV => absurd ⟨V, hV⟩ h⟩
theorem tx_at {M t : Nat} (hM : w.ownsMap Tryd.prog 9 (plainElem (H := Unit) Tryd.prog 3) M m D) (s : ByteArray) (hs : s.size ≤ maxLen) (ht : D.atKey (.string s.data.toList) (.lit (.int .i64 0)) = .lit (.int .i64 t)) :
    (Instr.lookup 70 (.map (some M)) (.string s) false).run Tryd.prog w = .ok (.int .i64 t) w := by
  have hkey : keyOf Tryd.prog 9 (.string s) = some (.string s.data.toList) := WideMaps.keyOf_string_mk Tryd.underlying9 hs
  obtain ⟨v, hrun, h1, _⟩ := hM.lookup_int lawT Tryd.underlying70 Tryd.underlying3 (zeroT _) hkey
  rw [ht] at h1
  have h2 : (t : Int) = v := litInt h1
  rw [h2]; exact hrun
theorem tx_store {M : Nat} (hM : w.ownsMap Tryd.prog 9 (plainElem (H := Unit) Tryd.prog 3) M m D) (hm : m < maxLen) (s : ByteArray) (hs : s.size ≤ maxLen) (t : Nat) (ht : t ≤ 1048576) :
    ∃ w', (Instr.mapUpdate 70 (.map (some M)) (.string s) (.int .i64 t)).run Tryd.prog w = .ok () w' ∧ w'.ownsMap Tryd.prog 9 (plainElem (H := Unit) Tryd.prog 3) M (m + 1) (D.put (.string s.data.toList) (.lit (.int .i64 t))) ∧ w.grownBy w' (some M) := by
  have hkey : keyOf Tryd.prog 9 (.string s) = some (.string s.data.toList) := WideMaps.keyOf_string_mk Tryd.underlying9 hs
  have hwf : (Lit.int .i64 (t : Int)).wf = true := by
    have h1 := wrap64_wf (t : Int)
    rwa [show wrap64 (t : Int) = (t : Int) from by unfold wrap64; omega] at h1
  exact hM.update lawT Tryd.underlying70 hm hkey (plainElem_int Tryd.underlying3 hwf)
end Go.Proofs.YtkeclfhhilphpaaDoor
/- cost.begun of entities that loop. Conditions: at most 2^20 entities, texts of at most 2^20 bytes; the tables hold what the text gives them. -/
namespace Go.Proofs.YtkeclfhhilphpaaDoor
open Go.RowKit Go.Maps Go.Proofs.YtkeclfhhilphpaaDoor.RefPlain Go.Proofs.YtkeclfhhilphpaaDoor.GraphPlain
set_option linter.unusedVariables false
set_option linter.unusedSimpArgs false
theorem graph_right (l : List Ent) : rightN ((innerN l).map Ent.na).length (intG (entG l)) = true := by
  have h := entG_ok l
  have hn : (entG l).length = ((innerN l).map Ent.na).length := by unfold entG; simp
  generalize entG l = G at *
  generalize ((innerN l).map Ent.na).length = nn at *
  unfold rightN
  rw [show decide ((intG G).length = nn) = true by rw [decide_eq_true]; simp [intG, hn], Bool.and_true, List.all_eq_true]
  intro r hr
  obtain ⟨i, hi, rfl⟩ := List.getElem_of_mem hr
  have hr2 := intG_at (List.getElem?_eq_getElem hi)
  rw [hr2.1]
  have : ((row G i).map Int.ofNat).any (oddN nn) = false := by
    rw [List.any_eq_false]
    intro x hx
    obtain ⟨j, hj, rfl⟩ := List.mem_map.1 hx
    have := h i j hj
    unfold oddN
    simp; omega
  rw [this]; rfl
theorem rows_short (l : List Ent) (hs : ∀ e ∈ l, e.tx.size ≤ 1048576) : ∀ r ∈ intG (entG l), r.length ≤ 9223372036854775806 := by
  intro r hr
  unfold intG entG at hr
  rw [List.map_map] at hr
  obtain ⟨x, hx, rfl⟩ := List.mem_map.1 hr
  show ((toN _ _).map Int.ofNat).length ≤ _
  rw [List.length_map]
  have h1 := toN_len ((innerN l).map Ent.na) (outN true (namesOf x.tx))
  have h2 := outN_few x.tx
  have h3 := hs x (innerN_mem hx)
  omega
set_option maxHeartbeats 4000000 in
theorem begun_loop (A : Option Addr) (n c : Nat) (l : List Ent) (w : World) (hl : EntsAt w A n l) (hn : n ≤ 1048576) (hs : ∀ e ∈ l, e.na.size ≤ maxLen ∧ e.tx.size ≤ 1048576) (hf : FormsAt w) (ht : Tabs w) (hlp : (orderN (entG l)).length < (innerN l).length) :
    Calls Tryd.prog 16 #[.slice A n c] w fun e w' => e = .returned (.tuple #[.pointer none, .slice none 0 0, .int .i64 8]) ∧ Below w.heap.size w w' := by
  have C := Lib.hid (of_any A n c l w hl hn hs hf ht)
  have HI := Lib.hid (show (innerN l).length ≤ 1048576 by have := innerN_len l l.length; rw [List.take_length] at this; have := hl.1; omega)
  have RB := Lib.hid (rows_short l (fun e he => (hs e he).2))
  have HL := Lib.hid hlp
  clear hl hs hf ht hlp
  go_enter Tryd.func16, Tryd.ntmps16
  go_wp2_with fail
  refine C.out.mono ?_
  rintro e w1 ⟨An, cn, At, ct, rfl, hT, hG, hB⟩
  unfold grV
  go_wp2_with fail
  obtain ⟨W, hW, hBW, hz, c0, c1⟩ := grBox w1 An (innerN l).length cn At (innerN l).length ct 65
  have O := Lib.hid (order_good An (innerN l).length cn At (innerN l).length ct (entG l) W (by have := hG.below hBW; rwa [List.length_map] at this) (entG_ok l) RB.out (by have := HI.out; omega) (by have := graph_right l; rwa [List.length_map] at this))
  rw [hW]
  refine O.out.mono ?_
  rintro e w2 ⟨h | h, hB2⟩
  · obtain ⟨_, rfl⟩ := h
    have HB := Lib.hid (hB.trans ((hBW.trans (hB2.mono (by omega))).mono hB.size))
    clear hT hG hB hBW hB2 c0 c1 O hz
    go_wp2
    go_ret3
    exact ⟨rfl, HB.out⟩
  · have h1 := h.1
    have := HL.out
    omega
end Go.Proofs.YtkeclfhhilphpaaDoor
/- Rows of sizes in memory, three cells each. No program in sight but for the kit's lists of cells. -/
namespace Go.Proofs.YtkeclfhhilphpaaDoor
open Go.RowKit
set_option linter.unusedVariables false
def szCells (l : List Sz) : List Value := l.flatMap fun z => [.int .i64 z.c, .int .i64 z.l, .int .i64 z.d]
def compZ (r : Nat) (z : Sz) : Value := if r = 0 then .int .i64 z.c else if r = 1 then .int .i64 z.l else .int .i64 z.d
theorem szCells_get (l : List Sz) : ∀ j, (szCells l)[j]? = (l[j / 3]?).map (compZ (j % 3)) := by
  induction l with
  | nil => intro j; simp [szCells]
  | cons z l ih =>
    intro j
    have e : szCells (z :: l) = [.int .i64 z.c, .int .i64 z.l, .int .i64 z.d] ++ szCells l := rfl
    rw [e]
    match j with
    | 0 => rfl
    | 1 => rfl
    | 2 => rfl
    | j + 3 =>
      rw [List.getElem?_append_right (by simp), show j + 3 - [Value.int .i64 z.c, .int .i64 z.l, .int .i64 z.d].length = j by simp, ih j, show (j + 3) / 3 = j / 3 + 1 by omega, show (j + 3) % 3 = j % 3 by omega, List.getElem?_cons_succ]
theorem szCells_len (l : List Sz) : (szCells l).length = l.length * 3 := by
  induction l with
  | nil => rfl
  | cons z l ih =>
    have e : szCells (z :: l) = [.int .i64 z.c, .int .i64 z.l, .int .i64 z.d] ++ szCells l := rfl
    rw [e, List.length_append, ih, List.length_cons]
    simp; omega
theorem szCells_at {l : List Sz} {i : Nat} {z : Sz} (h : l[i]? = some z) : (szCells l)[i * 3]? = some (.int .i64 z.c) ∧ (szCells l)[i * 3 + 1]? = some (.int .i64 z.l) ∧ (szCells l)[i * 3 + 2]? = some (.int .i64 z.d) := by
  refine ⟨?_, ?_, ?_⟩
  · rw [szCells_get, show i * 3 / 3 = i by omega, show i * 3 % 3 = 0 by omega, h]; rfl
  · rw [szCells_get, show (i * 3 + 1) / 3 = i by omega, show (i * 3 + 1) % 3 = 1 by omega, h]; rfl
  · rw [szCells_get, show (i * 3 + 2) / 3 = i by omega, show (i * 3 + 2) % 3 = 2 by omega, h]; rfl
theorem szCells_set {l : List Sz} {i : Nat} (hi : i < l.length) (z : Sz) : (((szCells l).set (i * 3) (.int .i64 z.c)).set (i * 3 + 1) (.int .i64 z.l)).set (i * 3 + 2) (.int .i64 z.d) = szCells (l.set i z) := by
  have hl := szCells_len l
  apply List.ext_getElem?
  intro j
  rw [List.getElem?_set, List.getElem?_set, List.getElem?_set, List.length_set, List.length_set, szCells_get, szCells_get, List.getElem?_set]
  by_cases h2 : i * 3 + 2 = j
  · subst h2
    rw [if_pos rfl, if_pos (by omega), show (i * 3 + 2) / 3 = i by omega, show (i * 3 + 2) % 3 = 2 by omega, if_pos rfl, if_pos hi]; rfl
  · rw [if_neg h2]
    by_cases h1 : i * 3 + 1 = j
    · subst h1
      rw [if_pos rfl, if_pos (by omega), show (i * 3 + 1) / 3 = i by omega, show (i * 3 + 1) % 3 = 1 by omega, if_pos rfl, if_pos hi]; rfl
    · rw [if_neg h1]
      by_cases h0 : i * 3 = j
      · subst h0
        rw [if_pos rfl, if_pos (by omega), show i * 3 / 3 = i by omega, show i * 3 % 3 = 0 by omega, if_pos rfl, if_pos hi]; rfl
      · rw [if_neg h0, if_neg (by omega)]
theorem szCells_made (n : Nat) : (madeCells #[.int .i64 0, .int .i64 0, .int .i64 0] (n * 3)).toList = szCells (List.replicate n ⟨0, 0, 0⟩) := by
  apply List.ext_getElem?
  intro j
  rw [szCells_get, List.getElem?_replicate]
  unfold madeCells
  by_cases h : j < n * 3
  · rw [if_pos (by omega)]
    simp [h]
    have h3 : j % 3 = 0 ∨ j % 3 = 1 ∨ j % 3 = 2 := by omega
    rcases h3 with e | e | e <;> rw [e] <;> rfl
  · rw [if_neg (by omega)]
    simp; omega
theorem szRow_set {w : World} {T : TypeId} {base N ob cp i : Nat} {l : List Sz} (h : w.ownsRow base T 3 (.slice (some ⟨ob, 0, none⟩) N cp) N (szCells l)) (hi : i < l.length) (z : Sz) :
    (((w.setCell ⟨ob, i * 3, none⟩ (.int .i64 z.c)).setCell ⟨ob, i * 3 + 1, none⟩ (.int .i64 z.l)).setCell ⟨ob, i * 3 + 2, none⟩ (.int .i64 z.d)).ownsRow base T 3 (.slice (some ⟨ob, 0, none⟩) N cp) N (szCells (l.set i z)) := by
  rw [← szCells_set hi z]
  exact ((((h.stored _ _).1).stored _ _).1.stored _ _).1
theorem szRow_at {w : World} {T : TypeId} {base N ob cp i : Nat} {l : List Sz} {z : Sz} (h : w.ownsRow base T 3 (.slice (some ⟨ob, 0, none⟩) N cp) N (szCells l)) (hi : l[i]? = some z) (hN : N = l.length) :
    w.cell? ⟨ob, i * 3, none⟩ = some (.int .i64 z.c) ∧ w.cell? ⟨ob, i * 3 + 1, none⟩ = some (.int .i64 z.l) ∧ w.cell? ⟨ob, i * 3 + 2, none⟩ = some (.int .i64 z.d) ∧ w.frozen? ⟨ob, i * 3, none⟩ = false ∧ w.frozen? ⟨ob, i * 3 + 1, none⟩ = false ∧ w.frozen? ⟨ob, i * 3 + 2, none⟩ = false := by
  have hlt : i < l.length := (List.getElem?_eq_some_iff.1 hi).1
  obtain ⟨h0, h1, h2⟩ := szCells_at hi
  refine ⟨?_, ?_, ?_, h.frozenAt _, h.frozenAt _, h.frozenAt _⟩
  · rw [h.cellAt _ (by omega)]; exact h0
  · rw [h.cellAt _ (by omega)]; exact h1
  · rw [h.cellAt _ (by omega)]; exact h2
end Go.Proofs.YtkeclfhhilphpaaDoor
/- cost.begun: what stands in its second loop. Conditions: none. -/
namespace Go.Proofs.YtkeclfhhilphpaaDoor
open Go.RowKit Go.Maps Go.Proofs.YtkeclfhhilphpaaDoor.RefPlain Go.Proofs.YtkeclfhhilphpaaDoor.GraphPlain
set_option linter.unusedVariables false
set_option linter.unusedSimpArgs false
structure BegB (W2 w : World) (l : List Ent) (A : Option Addr) (n c m : Nat) (DT : DataW Unit) (ob N k : Nat) (D : DataW Value) (st : SzF × List Sz) : Prop where
  below : Below W2.heap.size W2 w
  zat : ZAt w (W2.heap.size + 1 + 1) W2.heap.size (.map (some (W2.heap.size + 1))) (.slice A n c) k D st.1
  texts : w.ownsMap Tryd.prog 9 (plainElem (H := Unit) Tryd.prog 3) (W2.heap.size + 1) m DT
  key : KeyP DT l (innerN l)
  row : w.ownsRow W2.heap.size 26 3 (.slice (some ⟨ob, 0, none⟩) N N) N (szCells st.2)
  len : N = st.2.length
variable {W2 w w' : World} {l : List Ent} {A : Option Addr} {n c m : Nat} {DT : DataW Unit} {ob N k : Nat} {D : DataW Value} {st : SzF × List Sz}
theorem BegB.later (h : BegB W2 w l A n c m DT ob N k D st) (hb : Below w.heap.size w w') : BegB W2 w' l A n c m DT ob N k D st :=
  ⟨h.below.trans (hb.mono h.below.size), h.zat.later hb, map_kept h.texts (hb.block _ h.texts.lt), h.key, ownB_below h.row hb, h.len⟩
/-- A size is laid in its place. -/
theorem BegB.store (h : BegB W2 w l A n c m DT ob N k D st) {i : Nat} (hi : i < st.2.length) (z : Sz) :
    BegB W2 (((w.setCell ⟨ob, i * 3, none⟩ (.int .i64 z.c)).setCell ⟨ob, i * 3 + 1, none⟩ (.int .i64 z.l)).setCell ⟨ob, i * 3 + 2, none⟩ (.int .i64 z.d)) l A n c m DT ob N k D (st.1, st.2.set i z) := by
  have hob := h.row.lt ob rfl
  have hz : W2.heap.size + 1 + 1 ≠ ob := fun e => block_not_row h.zat.blk (by decide) h.row (by rw [e]; rfl)
  have hM : W2.heap.size ≠ ob := by
    rintro e
    obtain ⟨es, clock, h1, _⟩ := h.zat.map
    rcases h.row.2 with ⟨h2, _⟩ | ⟨g, cap, cur, hv, hg, hh, _⟩
    · cases h2
    · injection hv with hv _ _
      injection hv with hv
      injection hv with hv _ _
      rw [← hv, ← e, h1] at hh
      cases hh
  have hT : W2.heap.size + 1 ≠ ob := by
    rintro e
    obtain ⟨es, clock, h1, _⟩ := h.texts
    rcases h.row.2 with ⟨h2, _⟩ | ⟨g, cap, cur, hv, hg, hh, _⟩
    · cases h2
    · injection hv with hv _ _
      injection hv with hv
      injection hv with hv _ _
      rw [← hv, ← e, h1] at hh
      cases hh
  have hk : ∀ b, b ≠ ob → (((w.setCell ⟨ob, i * 3, none⟩ (.int .i64 z.c)).setCell ⟨ob, i * 3 + 1, none⟩ (.int .i64 z.l)).setCell ⟨ob, i * 3 + 2, none⟩ (.int .i64 z.d)).heap[b]? = w.heap[b]? := fun b hb =>
    (Below.heap_setCell _ ⟨ob, i * 3 + 2, none⟩ _ b hb).trans ((Below.heap_setCell _ ⟨ob, i * 3 + 1, none⟩ _ b hb).trans (Below.heap_setCell w ⟨ob, i * 3, none⟩ _ b hb))
  refine ⟨?_, ⟨(hk _ hz).trans h.zat.blk, map_kept h.zat.map (hk _ hM), h.zat.is⟩, map_kept h.texts (hk _ hT), h.key, szRow_set h.row hi z, ?_⟩
  · exact ((h.below.setCell (p := ⟨ob, i * 3, none⟩) hob.1 _).setCell (p := ⟨ob, i * 3 + 1, none⟩) hob.1 _).setCell (p := ⟨ob, i * 3 + 2, none⟩) hob.1 _
  · show N = (st.2.set i z).length
    rw [List.length_set]; exact h.len
theorem sz_store {M : Nat} {f : SzF} (hM : w.ownsMap Tryd.prog 9 heldV M k D) (hf : SzMap D f) (hm : k < maxLen) (s : ByteArray) (hs : s.size ≤ maxLen) (z : Sz) :
    ∃ w', (Instr.mapUpdate 69 (.map (some M)) (.string s) (.agg #[.int .i64 z.c, .int .i64 z.l, .int .i64 z.d])).run Tryd.prog w = .ok () w' ∧ w'.ownsMap Tryd.prog 9 heldV M (k + 1) (D.put (.string s.data.toList) (.held z.v)) ∧ SzMap (D.put (.string s.data.toList) (.held z.v)) (putF f s z) ∧ w.grownBy w' (some M) := by
  have hkey : keyOf Tryd.prog 9 (.string s) = some (.string s.data.toList) := WideMaps.keyOf_string_mk Tryd.underlying9 hs
  obtain ⟨w', h1, h2, h3⟩ := hM.update lawV Tryd.underlying69 hm hkey (val := .agg #[.int .i64 z.c, .int .i64 z.l, .int .i64 z.d]) (d := .held z.v) (ps := []) rfl
  exact ⟨w', h1, h2, hf.put hM.isMap, h3⟩
theorem BegB.mapped {s : ByteArray} {z : Sz} {l2 : List Sz} {f : SzF} (h : BegB W2 w l A n c m DT ob N k D (f, l2)) (hm : w'.ownsMap Tryd.prog 9 heldV W2.heap.size (k + 1) (D.put (.string s.data.toList) (.held z.v)))
    (hi : SzMap (D.put (.string s.data.toList) (.held z.v)) (putF f s z)) (hg : w.grownBy w' (some W2.heap.size)) : BegB W2 w' l A n c m DT ob N (k + 1) (D.put (.string s.data.toList) (.held z.v)) (putF f s z, l2) := by
  refine ⟨h.below.grown hg h.below.size (fun g e => by cases e; exact Nat.le_refl _), ⟨(hg.block _ h.zat.blk.lt (by simp; omega)).trans h.zat.blk, hm, hi⟩, map_kept h.texts (hg.block _ h.texts.lt (by simp)), h.key, ?_, h.len⟩
  refine h.row.kept hg (.inr ?_)
  intro e
  injection e with e
  have e : ob = W2.heap.size := e
  obtain ⟨es, clock, h1, _⟩ := h.zat.map
  rcases h.row.2 with ⟨h2, _⟩ | ⟨g, cap, cur, hv, hgb, hh, _⟩
  · cases h2
  · injection hv with hv _ _
    injection hv with hv
    injection hv with hv _ _
    rw [← hv, e, h1] at hh
    cases hh
end Go.Proofs.YtkeclfhhilphpaaDoor
/- cost.begun of entities without loops. Conditions: at most 2^20 entities, texts of at most 2^20 bytes; the tables hold what the text gives them. -/
namespace Go.Proofs.YtkeclfhhilphpaaDoor
open Go.RowKit Go.Maps Go.Proofs.YtkeclfhhilphpaaDoor.RefPlain Go.Proofs.YtkeclfhhilphpaaDoor.GraphPlain
set_option linter.unusedVariables false
set_option linter.unusedSimpArgs false
theorem Tryd.infoSz : (Tryd.prog.info? 26).map (fun i => (i.zero, i.size, i.bytes)) = some (some (.agg #[.int .i64 0, .int .i64 0, .int .i64 0]), 3, 24) := by kernel_rfl
def BegTold (l : List Ent) (w : World) (e : Ending) (w' : World) : Prop := ∃ (zb M ob nM : Nat) (y z : Value) (D : DataW Value), e = .returned (.tuple #[.pointer (some ⟨zb, 0, none⟩), .slice (some ⟨ob, 0, none⟩) (innerN l).length (innerN l).length, .int .i64 0]) ∧
  ZAt w' zb M y z nM D (runZ (innerN l) (orderN (entG l))).1 ∧ w'.ownsRow w.heap.size 26 3 (.slice (some ⟨ob, 0, none⟩) (innerN l).length (innerN l).length) (innerN l).length (szCells (runZ (innerN l) (orderN (entG l))).2) ∧ Below w.heap.size w w'
theorem entWorld (w : World) (t : TypeId) (x0 x1 x2 x3 x4 x5 : Value) : ∃ W, w.alloc (.cells #[x0, x1, x2, x3, x4, x5] t) = W ∧ W.heap.size = w.heap.size + 1 ∧ Below w.heap.size w W ∧ W.cell? ⟨w.heap.size, 0, none⟩ = some x0 ∧ W.cell? ⟨w.heap.size, 2, none⟩ = some x2 :=
  ⟨_, rfl, by simp, (Below.refl _ _).alloc (Nat.le_refl _) _, by rw [Lib.cell_of_heap (heapNew3 _ _)]; rfl, by rw [Lib.cell_of_heap (heapNew3 _ _)]; rfl⟩
theorem natIntsC {w : World} {base : Nat} {e : TypeId} {A : Option Addr} {c n : Nat} {l : List Nat} (hn : n = l.length) (h : w.ownsRow base e 1 (.slice A n c) n (natCells l)) : IntsAt w A n (l.map Int.ofNat) := by
  subst hn
  have e1 : natCells l = numCells (l.map Int.ofNat) := by simp [natCells, numCells]
  have e2 : l.length = (l.map Int.ofNat).length := by simp
  rw [e1, e2] at h
  have := IntsAt.of_own h
  rwa [← e2] at this
theorem entD_short (l : List Ent) (hs : ∀ e ∈ l, e.tx.size ≤ 1048576) (i : Nat) : (bsOf (entD (innerN l) i).tx).length ≤ MX := by
  rw [bsOf_len]
  unfold entD
  rw [List.getD_eq_getElem?_getD]
  cases h : (innerN l)[i]? with
  | none => show (default : Ent).tx.size ≤ _; exact Nat.zero_le _
  | some e =>
    have := hs e (innerN_mem (List.mem_of_getElem? h))
    show e.tx.size ≤ _
    unfold MX; omega
theorem begWorld (w : World) (l : List Ent) (A : Option Addr) (n c : Nat) : ∃ V, ((w.alloc (.map #[] 0)).alloc (.map #[] 0)).alloc (.cells #[.map (some w.heap.size), .map (some (w.heap.size + 1)), .slice A n c] 72) = V ∧ V.heap.size = w.heap.size + 3 ∧ BegA w V l A n c 0 0 (.map []) := by
  have h1 : Below w.heap.size w (w.alloc (.map #[] 0)) := (Below.refl _ w).alloc (Nat.le_refl _) _
  have h2 : Below w.heap.size w ((w.alloc (.map #[] 0)).alloc (.map #[] 0)) := h1.alloc (by simp) _
  have z1 : (w.alloc (.map #[] 0)).heap.size = w.heap.size + 1 := by simp
  have z2 : ((w.alloc (.map #[] 0)).alloc (.map #[] 0)).heap.size = w.heap.size + 2 := by simp
  have m1 := World.ownsMap_made w Tryd.prog 9 heldV
  have m2 := World.ownsMap_made (w.alloc (.map #[] 0)) Tryd.prog 9 (plainElem (H := Unit) Tryd.prog 3)
  rw [z1] at m2
  have g2 : Below (w.alloc (.map #[] 0)).heap.size (w.alloc (.map #[] 0)) ((w.alloc (.map #[] 0)).alloc (.map #[] 0)) := (Below.refl _ _).alloc (Nat.le_refl _) _
  have g3 : Below ((w.alloc (.map #[] 0)).alloc (.map #[] 0)).heap.size ((w.alloc (.map #[] 0)).alloc (.map #[] 0)) (((w.alloc (.map #[] 0)).alloc (.map #[] 0)).alloc (.cells #[.map (some w.heap.size), .map (some (w.heap.size + 1)), .slice A n c] 72)) := (Below.refl _ _).alloc (Nat.le_refl _) _
  have b3 := Blk3.new ((w.alloc (.map #[] 0)).alloc (.map #[] 0)) 72 (.map (some w.heap.size)) (.map (some (w.heap.size + 1))) (.slice A n c)
  rw [z2] at b3
  refine ⟨_, rfl, by simp, h2.alloc (by simp; omega) _, b3, ?_, ?_, Nat.le_refl _, KeyP.nil l⟩
  · exact map_kept (map_kept m1 (g2.block _ m1.lt)) (g3.block _ (by rw [z2]; omega))
  · exact map_kept m2 (g3.block _ (by rw [z2]; omega))
set_option maxHeartbeats 8000000 in
theorem begun_ok (A : Option Addr) (n c : Nat) (l : List Ent) (w : World) (hl : EntsAt w A n l) (hn : n ≤ 1048576) (hs : ∀ e ∈ l, e.na.size ≤ maxLen ∧ e.tx.size ≤ 1048576) (hf : FormsAt w) (ht : Tabs w) (hk : KnownAt w) (hlp : (orderN (entG l)).length = (innerN l).length) :
    Calls Tryd.prog 16 #[.slice A n c] w (BegTold l w) := by
  obtain ⟨i0, hi0, hz0, hz1, hz2⟩ := info_parts Tryd.infoSz
  have C := Lib.hid (of_any A n c l w hl hn hs hf ht)
  have HI := Lib.hid (show (innerN l).length ≤ 1048576 by have := innerN_len l l.length; rw [List.take_length] at this; have := hl.1; omega)
  have RB := Lib.hid (rows_short l (fun e he => (hs e he).2))
  have HO := Lib.hid hlp
  have HL := Lib.hid hl
  have HS := Lib.hid hs
  have HF := Lib.hid hf
  have HT := Lib.hid ht
  have HK := Lib.hid hk
  clear hl hs hf ht hlp hk
  go_enter Tryd.func16, Tryd.ntmps16
  go_wp2_with fail
  refine C.out.mono ?_
  rintro e w1 ⟨An, cn, At, ct, rfl, hT, hG, hB⟩
  unfold grV
  obtain ⟨W, hW, hBW, hz, c0, c1⟩ := grBox w1 An (innerN l).length cn At (innerN l).length ct 65
  have O := Lib.hid (order_good An (innerN l).length cn At (innerN l).length ct (entG l) W (by have := hG.below hBW; rwa [List.length_map] at this) (entG_ok l) RB.out (by have := HI.out; omega) (by have := graph_right l; rwa [List.length_map] at this))
  go_wp2_with fail
  refine O.out.mono ?_
  rintro e w2 ⟨h | h, hB2⟩
  · have h1 := h.1
    have := HO.out
    omega
  · obtain ⟨_, A2, c2, rfl, hor⟩ := h
    have HB := Lib.hid (hB.trans ((hBW.trans (hB2.mono (by omega))).mono hB.size))
    have NM := Lib.hid ((hT.below hBW).below hB2)
    have OR := Lib.hid hor
    have d0 := (hB2.cell (p := ⟨w1.heap.size, 0, none⟩) (by show w1.heap.size < _; omega)).trans c0
    have hzw : w1.heap.size < w2.heap.size := by have := hB2.size; omega
    clear hT hG hB hBW hB2 c0 c1 O hz hor
    obtain ⟨V, hV, hsV, hBeg⟩ := begWorld w2 l A n c
    have BG := Lib.hid hBeg
    have hmm := @run_makeMap Tryd.prog
    go_upto_region 7 with (fail)
    clear hV hBeg hmm
    go_loopw [34] (fun v34 wr => ∃ (k m : Nat) (D : DataW Unit), k ≤ n ∧ v34 = .int .i64 k ∧ Hid (BegA w2 wr l A n c k m D)) (fun v34 _ => n - (intOf v34).toNat)
    case atStart => exact ⟨0, 0, .map [], Nat.zero_le _, rfl, BG⟩
    case round =>
      obtain ⟨k, m, D, hk, rfl, HG⟩ := hrel
      by_cases hlt : k < n
      · obtain ⟨a, x, rfl, hx, hE⟩ := HL.out.2 k hlt
        have hbw := HB.out.trans (HG.out.below.mono HB.out.size)
        have hE := hE.below hbw
        obtain ⟨hEl, g0, g1, g2, g3, g4, g5⟩ := hE
        have b0 : (0 : Int) ≤ (k : Int) := by omega
        have b1 : (k : Int) < (n : Int) := by omega
        obtain ⟨xs1, xs2⟩ := HS.out x (List.mem_of_getElem? hx)
        obtain ⟨W5, hW5, hsz5, hB5, q0, q2⟩ := entWorld wr 44 (.string x.na) (.string x.tx) (.bool x.out) (.string x.pu) (.string x.sy) (.string x.no)
        have G5 := HG.out.later hB5
        obtain ⟨hkey1, hkey2⟩ := G5.key x.na
        obtain ⟨lv, hlv⟩ := tx_looks (fun V' => Below W5.heap.size W5 V') (fun V' hV' => (G5.later hV').texts) x.na xs1
        rw [hkey1] at hlv
        have mk : ∀ V', Below W5.heap.size W5 V' → V'.cell? ⟨w2.heap.size + 1 + 1, 1, none⟩ = some (.map (some (w2.heap.size + 1))) ∧ V'.cell? ⟨wr.heap.size, 0, none⟩ = some (.string x.na) ∧ (Instr.lookup 70 (.map (some (w2.heap.size + 1))) (.string x.na) true).run Tryd.prog V' = .ok (.tuple #[.int .i64 lv, .bool (hasT ((innerN (l.take k)).map Ent.na) x.na)]) V' :=
          fun V' hV' => ⟨(G5.later hV').blk.c1, (hV'.cell (p := ⟨wr.heap.size, 0, none⟩) (by show wr.heap.size < _; omega)).trans q0, hlv V' hV'⟩
        have HX := Lib.hid (innerN_next hx)
        have HHX := Lib.hid hx
        have H5 := Lib.hid G5
        generalize hhas : hasT ((innerN (l.take k)).map Ent.na) x.na = hb at mk hkey1 hkey2
        have HHAS := Lib.hid hhas
        have h0 := mk _ (Below.refl _ _).drew
        have hq2 : ∀ d, (W5.drewN d).cell? ⟨wr.heap.size, 2, none⟩ = some (.bool x.out) := fun d => q2
        have MK := Lib.hid mk
        clear hlv mk hkey1 hkey2 hhas G5 hx hEl hE hbw
        go_upto_region 9 with (fail)
        clear hW5
        refine wp_region_held_drew (S := fun V => Below W5.heap.size W5 V ∧ V.cell? ⟨w2.heap.size + 1 + 1, 1, none⟩ = some (.map (some (w2.heap.size + 1))) ∧ V.cell? ⟨wr.heap.size, 0, none⟩ = some (.string x.na) ∧ (Instr.lookup 70 (.map (some (w2.heap.size + 1))) (.string x.na) true).run Tryd.prog V = .ok (.tuple #[.int .i64 lv, .bool hb]) V) (by kernel_rfl) ⟨(Below.refl _ _).drew, h0⟩ (fun hHeld => ?_)
        --TAKES narthex/cost.begun:9 0..11
        refine wpAnyH_take (i := 0) (oi := ({ dst := some 40, op := Op.move (Operand.tmp 8), type := 51, pos := "cost.go:75", after := #[], guard := none } : Oper)) (v := ?_) rfl (by kernel_rfl) (by kernel_rfl) (by kernel_rfl) (fun _ _ _ h => h) (Or.inl ⟨by rfl, ?_⟩) (by assumption) ?_
        rotate_left 1
        · intro w hSw; (try dsimp only at hSw); go_simp; try with_reducible rfl
        (try simp only [Act.put, List.setIfInBounds_toArray, List.set_cons_zero, List.set_cons_succ])
        refine wpAnyH_take (i := 1) (oi := ({ dst := some 41, op := Op.nilCheck (Operand.tmp 40), type := 0, pos := "cost.go:75", after := #[{ on := 0, ground := Ground.data }], guard := none } : Oper)) (v := ?_) rfl (by kernel_rfl) (by kernel_rfl) (by kernel_rfl) (fun _ _ _ h => h) (Or.inl ⟨by rfl, ?_⟩) (by assumption) ?_
        rotate_left 1
        · intro w hSw; (try dsimp only at hSw); go_simp; try with_reducible rfl
        (try simp only [Act.put, List.setIfInBounds_toArray, List.set_cons_zero, List.set_cons_succ])
        refine wpAnyH_take (i := 2) (oi := ({ dst := some 42, op := Op.fieldAddr 72 (Operand.tmp 41) 1, type := 0, pos := "cost.go:75", after := #[{ on := 1, ground := Ground.data }], guard := none } : Oper)) (v := ?_) rfl (by kernel_rfl) (by kernel_rfl) (by kernel_rfl) (fun _ _ _ h => h) (Or.inl ⟨by rfl, ?_⟩) (by assumption) ?_
        rotate_left 1
        · intro w hSw; (try dsimp only at hSw); go_simp; try with_reducible rfl
        (try simp only [Act.put, List.setIfInBounds_toArray, List.set_cons_zero, List.set_cons_succ])
        refine wpAnyH_take (i := 3) (oi := ({ dst := some 43, op := Op.load 70 (Operand.tmp 42), type := 70, pos := "cost.go:75", after := #[{ on := 2, ground := Ground.data }], guard := none } : Oper)) (v := ?_) rfl (by kernel_rfl) (by kernel_rfl) (by kernel_rfl) (fun _ _ _ h => h) (Or.inl ⟨by rfl, ?_⟩) (by assumption) ?_
        rotate_left 1
        · intro w hSw; (try dsimp only at hSw); go_simp; try with_reducible rfl
        (try simp only [Act.put, List.setIfInBounds_toArray, List.set_cons_zero, List.set_cons_succ])
        refine wpAnyH_take (i := 4) (oi := ({ dst := some 44, op := Op.fieldAddr 44 (Operand.tmp 10) 0, type := 0, pos := "cost.go:75", after := #[], guard := none } : Oper)) (v := ?_) rfl (by kernel_rfl) (by kernel_rfl) (by kernel_rfl) (fun _ _ _ h => h) (Or.inl ⟨by rfl, ?_⟩) (by assumption) ?_
        rotate_left 1
        · intro w hSw; (try dsimp only at hSw); go_simp; try with_reducible rfl
        (try simp only [Act.put, List.setIfInBounds_toArray, List.set_cons_zero, List.set_cons_succ])
        refine wpAnyH_take (i := 5) (oi := ({ dst := some 45, op := Op.load 9 (Operand.tmp 44), type := 9, pos := "cost.go:75", after := #[{ on := 4, ground := Ground.data }], guard := none } : Oper)) (v := ?_) rfl (by kernel_rfl) (by kernel_rfl) (by kernel_rfl) (fun _ _ _ h => h) (Or.inl ⟨by rfl, ?_⟩) (by assumption) ?_
        rotate_left 1
        · intro w hSw; (try dsimp only at hSw); go_simp; try with_reducible rfl
        (try simp only [Act.put, List.setIfInBounds_toArray, List.set_cons_zero, List.set_cons_succ])
        refine wpAnyH_take (i := 6) (oi := ({ dst := some 46, op := Op.lookup 70 (Operand.tmp 43) (Operand.tmp 45) true, type := 73, pos := "cost.go:75", after := #[{ on := 3, ground := Ground.data }, { on := 5, ground := Ground.data }], guard := none } : Oper)) (v := ?_) rfl (by kernel_rfl) (by kernel_rfl) (by kernel_rfl) (fun _ _ _ h => h) (Or.inl ⟨by rfl, ?_⟩) (by assumption) ?_
        rotate_left 1
        · intro w hSw; (try dsimp only at hSw); go_simp; try with_reducible rfl
        (try simp only [Act.put, List.setIfInBounds_toArray, List.set_cons_zero, List.set_cons_succ])
        refine wpAnyH_take (i := 7) (oi := ({ dst := some 39, op := Op.move (Operand.tmp 46), type := 73, pos := "cost.go:75", after := #[{ on := 6, ground := Ground.data }], guard := none } : Oper)) (v := ?_) rfl (by kernel_rfl) (by kernel_rfl) (by kernel_rfl) (fun _ _ _ h => h) (Or.inl ⟨by rfl, ?_⟩) (by assumption) ?_
        rotate_left 1
        · intro w hSw; (try dsimp only at hSw); go_simp; try with_reducible rfl
        (try simp only [Act.put, List.setIfInBounds_toArray, List.set_cons_zero, List.set_cons_succ])
        refine wpAnyH_take (i := 8) (oi := ({ dst := some 47, op := Op.extract (Operand.tmp 39) 0, type := 3, pos := "cost.go:75", after := #[{ on := 7, ground := Ground.data }], guard := none } : Oper)) (v := ?_) rfl (by kernel_rfl) (by kernel_rfl) (by kernel_rfl) (fun _ _ _ h => h) (Or.inl ⟨by rfl, ?_⟩) (by assumption) ?_
        rotate_left 1
        · intro w hSw; (try dsimp only at hSw); go_simp; try with_reducible rfl
        (try simp only [Act.put, List.setIfInBounds_toArray, List.set_cons_zero, List.set_cons_succ])
        refine wpAnyH_take (i := 9) (oi := ({ dst := some 48, op := Op.extract (Operand.tmp 39) 1, type := 4, pos := "cost.go:75", after := #[{ on := 7, ground := Ground.data }, { on := 10, ground := Ground.gcOnly Departure.lateStores }], guard := none } : Oper)) (v := ?_) rfl (by kernel_rfl) (by kernel_rfl) (by kernel_rfl) (fun _ _ _ h => h) (Or.inl ⟨by rfl, ?_⟩) (by assumption) ?_
        rotate_left 1
        · intro w hSw; (try dsimp only at hSw); go_simp; try with_reducible rfl
        (try simp only [Act.put, List.setIfInBounds_toArray, List.set_cons_zero, List.set_cons_succ])
        refine wpAnyH_take (i := 10) (oi := ({ dst := some 11, op := Op.assign (Operand.tmp 47), type := 3, pos := "cost.go:75", after := #[{ on := 8, ground := Ground.data }, { on := 0, ground := Ground.phase }, { on := 1, ground := Ground.phase }, { on := 2, ground := Ground.phase }, { on := 3, ground := Ground.phase }, { on := 4, ground := Ground.phase }, { on := 5, ground := Ground.phase }, { on := 6, ground := Ground.phase }, { on := 7, ground := Ground.phase }, { on := 8, ground := Ground.phase }, { on := 9, ground := Ground.textOnly Departure.lateStores }], guard := none } : Oper)) (v := ?_) rfl (by kernel_rfl) (by kernel_rfl) (by kernel_rfl) (fun _ _ _ h => h) (Or.inl ⟨by rfl, ?_⟩) (by assumption) ?_
        rotate_left 1
        · intro w hSw; (try dsimp only at hSw); go_simp; try with_reducible rfl
        (try simp only [Act.put, List.setIfInBounds_toArray, List.set_cons_zero, List.set_cons_succ])
        refine wpAnyH_take (i := 11) (oi := ({ dst := some 12, op := Op.assign (Operand.tmp 48), type := 4, pos := "cost.go:75", after := #[{ on := 9, ground := Ground.data }, { on := 10, ground := Ground.chain }, { on := 0, ground := Ground.phase }, { on := 1, ground := Ground.phase }, { on := 2, ground := Ground.phase }, { on := 3, ground := Ground.phase }, { on := 4, ground := Ground.phase }, { on := 5, ground := Ground.phase }, { on := 6, ground := Ground.phase }, { on := 7, ground := Ground.phase }, { on := 8, ground := Ground.phase }, { on := 9, ground := Ground.phase }, { on := 10, ground := Ground.phase }], guard := none } : Oper)) (v := ?_) rfl (by kernel_rfl) (by kernel_rfl) (by kernel_rfl) (fun _ _ _ h => h) (Or.inl ⟨by rfl, ?_⟩) (by assumption) ?_
        rotate_left 1
        · intro w hSw; (try dsimp only at hSw); go_simp; try with_reducible rfl
        (try simp only [Act.put, List.setIfInBounds_toArray, List.set_cons_zero, List.set_cons_succ])
        --END
        refine wpAnyH_done (by kernel_rfl) ?_ _
        have q3 : W5.drew.cell? ⟨wr.heap.size, 2, none⟩ = some (.bool x.out) := q2
        have q1 : W5.drew.cell? ⟨wr.heap.size, 0, none⟩ = some (.string x.na) := q0
        have hD5 : Below W5.heap.size W5 W5.drew := (Below.refl _ _).drew
        have H6 := Lib.hid (H5.out.later hD5)
        have hw6 : wr.heap.size < W5.drew.heap.size := by show wr.heap.size < W5.heap.size; omega
        clear hHeld q0 q2 hq2 h0 MK H5 hB5 hsz5 hD5
        generalize W5.drew = W6 at *
        cases hb with
        | true =>
          have HP := Lib.hid (H6.out.pass (by rw [HX.out]; unfold addE; rw [if_pos (.inr HHAS.out)]))
          clear q1 q3
          go_wp2
          go_roundw
          case rel => exact ⟨k + 1, m, D, by omega, by go_num, HP⟩
          case measure => simp [intOf]; omega
        | false =>
          cases ho : x.out with
          | true =>
            have HP := Lib.hid (H6.out.pass (by rw [HX.out]; unfold addE; rw [if_pos (.inl ho)]))
            rw [ho] at q3
            clear ho q1
            go_wp2
            go_roundw
            case rel => exact ⟨k + 1, m, D, by omega, by go_num, HP⟩
            case measure => simp [intOf]; omega
          | false =>
            rw [ho] at q3
            have HO2 := Lib.hid ho
            clear ho
            obtain ⟨W7, hup, hown, hgrow⟩ := tx_store (H6.out.later (Below.refl _ W6).drew).texts (by have := H6.out.few; unfold maxLen; omega) x.na xs1 k (by omega)
            have H7 := Lib.hid ((H6.out.later (Below.refl _ W6).drew).mapped HHX.out HO2.out HHAS.out hown hgrow)
            have k1 : W6.drew.cell? ⟨w2.heap.size + 1 + 1, 1, none⟩ = some (.map (some (w2.heap.size + 1))) := (H6.out.later (Below.refl _ W6).drew).blk.c1
            have k0 : W6.drew.cell? ⟨wr.heap.size, 0, none⟩ = some (.string x.na) := q1
            have k7 : W7.cell? ⟨w2.heap.size + 1 + 1, 1, none⟩ = some (.map (some (w2.heap.size + 1))) := H7.out.blk.c1
            have hne : wr.heap.size ≠ w2.heap.size + 1 := by have := HG.out.texts.lt; omega
            have k8 : W7.cell? ⟨wr.heap.size, 0, none⟩ = some (.string x.na) := by
              have hb := hgrow.block wr.heap.size hw6 (by simp; exact hne)
              have : W7.cell? ⟨wr.heap.size, 0, none⟩ = W6.drew.cell? ⟨wr.heap.size, 0, none⟩ := by unfold World.cell?; rw [hb]
              rw [this]; exact k0
            clear hown hgrow
            go_wp2_with fail
            refine wp_region_held_drew (S := fun V => V.cell? ⟨w2.heap.size + 1 + 1, 1, none⟩ = some (.map (some (w2.heap.size + 1))) ∧ V.cell? ⟨wr.heap.size, 0, none⟩ = some (.string x.na)) (by kernel_rfl) ⟨k1, k0⟩ (fun hHeld => ?_)
            --TAKES narthex/cost.begun:11 0..6
            refine wpAnyH_take (i := 0) (oi := ({ dst := some 56, op := Op.move (Operand.tmp 8), type := 51, pos := "cost.go:76", after := #[], guard := none } : Oper)) (v := ?_) rfl (by kernel_rfl) (by kernel_rfl) (by kernel_rfl) (fun _ _ _ h => h) (Or.inl ⟨by rfl, ?_⟩) (by assumption) ?_
            rotate_left 1
            · intro w hSw; (try dsimp only at hSw); go_simp; try with_reducible rfl
            (try simp only [Act.put, List.setIfInBounds_toArray, List.set_cons_zero, List.set_cons_succ])
            refine wpAnyH_take (i := 1) (oi := ({ dst := some 57, op := Op.nilCheck (Operand.tmp 56), type := 0, pos := "cost.go:76", after := #[{ on := 0, ground := Ground.data }], guard := none } : Oper)) (v := ?_) rfl (by kernel_rfl) (by kernel_rfl) (by kernel_rfl) (fun _ _ _ h => h) (Or.inl ⟨by rfl, ?_⟩) (by assumption) ?_
            rotate_left 1
            · intro w hSw; (try dsimp only at hSw); go_simp; try with_reducible rfl
            (try simp only [Act.put, List.setIfInBounds_toArray, List.set_cons_zero, List.set_cons_succ])
            refine wpAnyH_take (i := 2) (oi := ({ dst := some 58, op := Op.fieldAddr 72 (Operand.tmp 57) 1, type := 0, pos := "cost.go:76", after := #[{ on := 1, ground := Ground.data }], guard := none } : Oper)) (v := ?_) rfl (by kernel_rfl) (by kernel_rfl) (by kernel_rfl) (fun _ _ _ h => h) (Or.inl ⟨by rfl, ?_⟩) (by assumption) ?_
            rotate_left 1
            · intro w hSw; (try dsimp only at hSw); go_simp; try with_reducible rfl
            (try simp only [Act.put, List.setIfInBounds_toArray, List.set_cons_zero, List.set_cons_succ])
            refine wpAnyH_take (i := 3) (oi := ({ dst := some 59, op := Op.load 70 (Operand.tmp 58), type := 70, pos := "cost.go:76", after := #[{ on := 2, ground := Ground.data }], guard := none } : Oper)) (v := ?_) rfl (by kernel_rfl) (by kernel_rfl) (by kernel_rfl) (fun _ _ _ h => h) (Or.inl ⟨by rfl, ?_⟩) (by assumption) ?_
            rotate_left 1
            · intro w hSw; (try dsimp only at hSw); go_simp; try with_reducible rfl
            (try simp only [Act.put, List.setIfInBounds_toArray, List.set_cons_zero, List.set_cons_succ])
            refine wpAnyH_take (i := 4) (oi := ({ dst := some 60, op := Op.fieldAddr 44 (Operand.tmp 10) 0, type := 0, pos := "cost.go:76", after := #[], guard := none } : Oper)) (v := ?_) rfl (by kernel_rfl) (by kernel_rfl) (by kernel_rfl) (fun _ _ _ h => h) (Or.inl ⟨by rfl, ?_⟩) (by assumption) ?_
            rotate_left 1
            · intro w hSw; (try dsimp only at hSw); go_simp; try with_reducible rfl
            (try simp only [Act.put, List.setIfInBounds_toArray, List.set_cons_zero, List.set_cons_succ])
            refine wpAnyH_take (i := 5) (oi := ({ dst := some 61, op := Op.load 9 (Operand.tmp 60), type := 9, pos := "cost.go:76", after := #[{ on := 4, ground := Ground.data }], guard := none } : Oper)) (v := ?_) rfl (by kernel_rfl) (by kernel_rfl) (by kernel_rfl) (fun _ _ _ h => h) (Or.inl ⟨by rfl, ?_⟩) (by assumption) ?_
            rotate_left 1
            · intro w hSw; (try dsimp only at hSw); go_simp; try with_reducible rfl
            (try simp only [Act.put, List.setIfInBounds_toArray, List.set_cons_zero, List.set_cons_succ])
            refine wpAnyH_take (i := 6) (oi := ({ dst := some 62, op := Op.move (Operand.tmp 9), type := 3, pos := "cost.go:76", after := #[], guard := none } : Oper)) (v := ?_) rfl (by kernel_rfl) (by kernel_rfl) (by kernel_rfl) (fun _ _ _ h => h) (Or.inl ⟨by rfl, ?_⟩) (by assumption) ?_
            rotate_left 1
            · intro w hSw; (try dsimp only at hSw); go_simp; try with_reducible rfl
            (try simp only [Act.put, List.setIfInBounds_toArray, List.set_cons_zero, List.set_cons_succ])
            --END
            refine wpAnyH_ready (rs := [7]) (by kernel_rfl) (by simp) ?_
            refine AllReadyH.cons (o := _) rfl (fun K hK => ?_) AllReadyH.nil
            go_simp
            refine hK.out _ _ ⟨k7, k8⟩ (fun hHeld2 => ?_)
            clear hK K hHeld
            (try simp only [Act.put, List.setIfInBounds_toArray, List.set_cons_zero, List.set_cons_succ])
            refine wpAnyH_done (by kernel_rfl) ?_ _
            clear hHeld2 k7 k8 k0 k1 hup q1 q3
            go_wp2
            go_roundw
            case rel => exact ⟨k + 1, m + 1, _, by omega, by go_num, H7⟩
            case measure => simp [intOf]; omega
      · obtain rfl : k = n := by omega
        have d1 := (HG.out.below.cell (p := ⟨w1.heap.size, 0, none⟩) hzw).trans d0
        have KT := HG.out.key
        rw [show l.take k = l from List.take_of_length_le (by rw [HL.out.1]; exact Nat.le_refl _)] at KT
        have HKT := Lib.hid KT
        have hbs := HG.out.below.size
        clear KT
        go_wp2_with (at_make; refine wpList_make_full _ rfl _ _ 32 rfl w2.heap.size 26 i0 (.agg #[.int .i64 0, .int .i64 0, .int .i64 0]) 3 Tryd.underlying32 hi0 hz0 hz1 .i64 .i64 _ _ (innerN l).length rfl rfl rfl rfl ?m1 ?m2 ?m3 ?_)
        case m1 => rw [hz2]; have := HI.out; omega
        case m2 => have := HI.out; unfold maxLen; omega
        case m3 => exact hbs
        intro w3 hown hgrow
        have r3 : w3.ownsRow w2.heap.size 26 3 (.slice (some ⟨wr.heap.size, 0, none⟩) (innerN l).length (innerN l).length) (innerN l).length (szCells (List.replicate (innerN l).length zero3)) := by
          rw [show zero3 = (⟨0, 0, 0⟩ : Sz) from rfl, ← szCells_made]
          exact hown
        have B3 := Lib.hid (⟨HG.out.below.grown hgrow hbs (fun _ h => by cases h), ⟨(hgrow.block _ HG.out.blk.lt (by simp)).trans HG.out.blk, map_kept HG.out.of (hgrow.block _ HG.out.of.lt (by simp)), SzMap.nil⟩, map_kept HG.out.texts (hgrow.block _ HG.out.texts.lt (by simp)), HKT.out, r3, by simp⟩ : BegB w2 w3 l A k c m D wr.heap.size (innerN l).length 0 (.map []) (fun _ => none, List.replicate (innerN l).length zero3))
        have B3 := Lib.hid (show BegB w2 w3 l A k c m D wr.heap.size (innerN l).length 0 (.map []) (runZ (innerN l) ((orderN (entG l)).take 0)) from B3.out)
        generalize wr.heap.size = ob at *
        have GD := Lib.hid (orderN_good (entG l))
        have HEN := Lib.hid (show (entG l).length = (innerN l).length by unfold entG; simp)
        clear r3 hown hgrow hbs HG d1
        go_wp2_with fail
        go_loopw [70] (fun v70 wr => ∃ (q : Nat) (D2 : DataW Value), q ≤ (innerN l).length ∧ v70 = .int .i64 q ∧ Hid (BegB w2 wr l A k c m D ob (innerN l).length q D2 (runZ (innerN l) ((orderN (entG l)).take q)))) (fun v70 _ => (innerN l).length - (intOf v70).toNat)
        case atStart => exact ⟨0, .map [], Nat.zero_le _, rfl, B3⟩
        case round =>
          obtain ⟨q, D2, hq, rfl, HG⟩ := hrel
          by_cases hql : q < (innerN l).length
          · obtain ⟨i, hi⟩ : ∃ i, (orderN (entG l))[q]? = some i := ⟨_, List.getElem?_eq_getElem (by have := HO.out; omega)⟩
            have hiN : i < (innerN l).length := by have := GD.out.bound i (List.mem_of_getElem? hi); have := HEN.out; omega
            obtain ⟨d, hd⟩ : ∃ d, (innerN l)[i]? = some d := ⟨_, List.getElem?_eq_getElem hiN⟩
            have hdm := innerN_mem (List.mem_of_getElem? hd)
            obtain ⟨xs1, xs2⟩ := HS.out d hdm
            have hdD : entD (innerN l) i = d := by unfold entD; rw [List.getD_eq_getElem?_getD, hd]; rfl
            obtain ⟨hk1, hk2⟩ := HG.out.key d.na
            obtain ⟨t, e, ht1, ht2, ht3, ht4⟩ := hk2 (by unfold hasT; rw [List.any_eq_true]; exact ⟨d.na, List.mem_map.2 ⟨d, List.mem_of_getElem? hd, rfl⟩, by simp⟩)
            obtain rfl : e = d := inner_same hd ht4 ht3
            have htn : t < k := by have := (List.getElem?_eq_some_iff.1 ht2).1; have := HL.out.1; omega
            have hlk := tx_at HG.out.texts e.na xs1 ht1
            obtain ⟨an, sn', ha, hsn, hnl, hnc⟩ := (NM.out.below HG.out.below).2 i (by rw [List.length_map]; exact hiN)
            obtain rfl : sn' = e.na := by
              rw [List.getElem?_map, hd] at hsn
              exact (Option.some.inj hsn).symm
            subst ha
            obtain ⟨ao, ov, hao, hov, hol, hoc⟩ := (IntsAt.below (natIntsC HO.out.symm OR.out) HG.out.below).2 q (by omega)
            obtain rfl : ov = (i : Int) := by
              rw [List.getElem?_map, hi] at hov
              exact (Option.some.inj hov).symm
            subst hao
            obtain ⟨al, x, hal, hx, hE⟩ := (HL.out.below (HB.out.trans (HG.out.below.mono HB.out.size))).2 t htn
            obtain rfl : x = e := Option.some.inj (hx.symm.trans ht2)
            subst hal
            obtain ⟨hEl, g0, g1, g2, g3, g4, g5⟩ := hE
            have hbw := HB.out.trans (HG.out.below.mono HB.out.size)
            have hok := runZ_ok (inn := innerN l) (orderN (entG l)) (by rw [HO.out]; have := HI.out; unfold MX; omega) (entD_short l (fun e he => (HS.out e he).2)) q
            have hq1 : q + 1 ≤ MX := by have := HI.out; unfold MX; omega
            have C := Lib.hid (text_any x.tx q wr HG.out.zat (HK.out.below hbw HK.out.size) (HF.out.below hbw HF.out.size) (HT.out.below hbw HT.out.size) hok.1 hq1 xs2)
            have hnext := runZ_next (inn := innerN l) hi
            unfold stepR at hnext
            rw [hdD] at hnext
            obtain ⟨zo, hzo⟩ : ∃ zo, (runZ (innerN l) ((orderN (entG l)).take q)).2[i]? = some zo := ⟨_, List.getElem?_eq_getElem (by rw [runZ_len]; exact hiN)⟩
            have hRL := runZ_len (inn := innerN l) ((orderN (entG l)).take q)
            generalize hst : runZ (innerN l) ((orderN (entG l)).take q) = st at *
            have hI20 := HI.out
            have b0 : (0 : Int) ≤ (q : Int) := by omega
            have b1 : (q : Int) < ((innerN l).length : Int) := by omega
            have b2 : (0 : Int) ≤ (i : Int) := by omega
            have b3 : (i : Int) < ((innerN l).length : Int) := by omega
            have b4 : (0 : Int) ≤ (t : Int) := by omega
            have b5 : (t : Int) < (k : Int) := by omega
            have d1 := (HG.out.below.cell (p := ⟨w1.heap.size, 0, none⟩) hzw).trans d0
            have z1 := HG.out.zat.blk.c1
            have NX := Lib.hid hnext
            have HQL := Lib.hid hql
            have ZO := Lib.hid hzo
            have RL := Lib.hid hRL
            have ST := Lib.hid hst
            generalize hzz : sizeT (refF st.1) (bsOf x.tx) = zz at *
            have hdk : hasT ((innerN l).map Ent.na) x.na = hasT ((innerN l).map Ent.na) x.na := rfl
            clear hnext hzo hRL hst hzz hok hd hdD hdm hk1 hk2 ht1 ht2 ht3 ht4 hEl hx g0 g2 g3 g4 g5 hsn hnl hov hol hi hbw hdk xs2
            go_wp2_with fail
            refine C.out.mono ?_
            rintro e w4 ⟨rfl, hB4⟩
            obtain ⟨zc, zl, zd⟩ := zz
            dsimp only [Sz.v]
            have HG4 := Lib.hid (HG.out.later hB4)
            obtain ⟨y0, y1, y2, m0, m1, m2⟩ := szRow_at HG4.out.row ZO.out HG4.out.len
            clear hlk C d1 z1 hB4
            go_wp2_with fail
            have HG9 := HG4.out.store (i := i) (by have := RL.out; omega) ⟨zc, zl, zd⟩
            clear y0 y1 y2 m0 m1 m2
            generalize ((w4.setCell ⟨ob, i * 3, none⟩ (.int .i64 zc)).setCell ⟨ob, i * 3 + 1, none⟩ (.int .i64 zl)).setCell ⟨ob, i * 3 + 2, none⟩ (.int .i64 zd) = W9 at HG9 ⊢
            have hln : i < st.2.length := by have := RL.out; omega
            have HG9 := HG9.later (Below.refl _ W9).drew
            obtain ⟨W10, hup, hown, his, hgrow⟩ := sz_store HG9.zat.map HG9.zat.is (by have := HI.out; unfold maxLen; omega) x.na xs1 ⟨zc, zl, zd⟩
            have HG10 := HG9.mapped hown his hgrow
            obtain ⟨y0, y1, y2, m0, m1, m2⟩ := szRow_at HG9.row (z := ⟨zc, zl, zd⟩) (by show (st.2.set i _)[i]? = _; rw [List.getElem?_set, if_pos rfl, if_pos hln]) HG9.len
            obtain ⟨n0, n1, n2, _, _, _⟩ := szRow_at HG10.row (z := ⟨zc, zl, zd⟩) (by show (st.2.set i _)[i]? = _; rw [List.getElem?_set, if_pos rfl, if_pos hln]) HG10.len
            have k1 := HG9.zat.blk.c0
            have k2 := HG10.zat.blk.c0
            have H10 := Lib.hid HG10
            dsimp only at hup y0 y1 y2 n0 n1 n2
            clear HG9 HG10 HG4 hown his hgrow m0 m1 m2 hln
            refine wp_region_held_drew (S := fun V => V.cell? ⟨w2.heap.size + 1 + 1, 0, none⟩ = some (.map (some w2.heap.size)) ∧ V.cell? ⟨ob, i * 3, none⟩ = some (.int .i64 zc) ∧ V.cell? ⟨ob, i * 3 + 1, none⟩ = some (.int .i64 zl) ∧ V.cell? ⟨ob, i * 3 + 2, none⟩ = some (.int .i64 zd)) (by kernel_rfl) ⟨k1, y0, y1, y2⟩ (fun hHeld => ?_)
            --TAKES narthex/cost.begun:19 0..8
            refine wpAnyH_take (i := 0) (oi := ({ dst := some 94, op := Op.move (Operand.tmp 8), type := 51, pos := "cost.go:83", after := #[], guard := none } : Oper)) (v := ?_) rfl (by kernel_rfl) (by kernel_rfl) (by kernel_rfl) (fun _ _ _ h => h) (Or.inl ⟨by rfl, ?_⟩) (by assumption) ?_
            rotate_left 1
            · intro w hSw; (try dsimp only at hSw); go_simp; try with_reducible rfl
            (try simp only [Act.put, List.setIfInBounds_toArray, List.set_cons_zero, List.set_cons_succ])
            refine wpAnyH_take (i := 1) (oi := ({ dst := some 95, op := Op.nilCheck (Operand.tmp 94), type := 0, pos := "cost.go:83", after := #[{ on := 0, ground := Ground.data }], guard := none } : Oper)) (v := ?_) rfl (by kernel_rfl) (by kernel_rfl) (by kernel_rfl) (fun _ _ _ h => h) (Or.inl ⟨by rfl, ?_⟩) (by assumption) ?_
            rotate_left 1
            · intro w hSw; (try dsimp only at hSw); go_simp; try with_reducible rfl
            (try simp only [Act.put, List.setIfInBounds_toArray, List.set_cons_zero, List.set_cons_succ])
            refine wpAnyH_take (i := 2) (oi := ({ dst := some 96, op := Op.fieldAddr 72 (Operand.tmp 95) 0, type := 0, pos := "cost.go:83", after := #[{ on := 1, ground := Ground.data }], guard := none } : Oper)) (v := ?_) rfl (by kernel_rfl) (by kernel_rfl) (by kernel_rfl) (fun _ _ _ h => h) (Or.inl ⟨by rfl, ?_⟩) (by assumption) ?_
            rotate_left 1
            · intro w hSw; (try dsimp only at hSw); go_simp; try with_reducible rfl
            (try simp only [Act.put, List.setIfInBounds_toArray, List.set_cons_zero, List.set_cons_succ])
            refine wpAnyH_take (i := 3) (oi := ({ dst := some 97, op := Op.load 69 (Operand.tmp 96), type := 69, pos := "cost.go:83", after := #[{ on := 2, ground := Ground.data }], guard := none } : Oper)) (v := ?_) rfl (by kernel_rfl) (by kernel_rfl) (by kernel_rfl) (fun _ _ _ h => h) (Or.inl ⟨by rfl, ?_⟩) (by assumption) ?_
            rotate_left 1
            · intro w hSw; (try dsimp only at hSw); go_simp; try with_reducible rfl
            (try simp only [Act.put, List.setIfInBounds_toArray, List.set_cons_zero, List.set_cons_succ])
            refine wpAnyH_take (i := 4) (oi := ({ dst := some 98, op := Op.move (Operand.tmp 16), type := 9, pos := "cost.go:83", after := #[], guard := none } : Oper)) (v := ?_) rfl (by kernel_rfl) (by kernel_rfl) (by kernel_rfl) (fun _ _ _ h => h) (Or.inl ⟨by rfl, ?_⟩) (by assumption) ?_
            rotate_left 1
            · intro w hSw; (try dsimp only at hSw); go_simp; try with_reducible rfl
            (try simp only [Act.put, List.setIfInBounds_toArray, List.set_cons_zero, List.set_cons_succ])
            refine wpAnyH_take (i := 5) (oi := ({ dst := some 99, op := Op.move (Operand.tmp 13), type := 32, pos := "cost.go:83", after := #[], guard := none } : Oper)) (v := ?_) rfl (by kernel_rfl) (by kernel_rfl) (by kernel_rfl) (fun _ _ _ h => h) (Or.inl ⟨by rfl, ?_⟩) (by assumption) ?_
            rotate_left 1
            · intro w hSw; (try dsimp only at hSw); go_simp; try with_reducible rfl
            (try simp only [Act.put, List.setIfInBounds_toArray, List.set_cons_zero, List.set_cons_succ])
            refine wpAnyH_take (i := 6) (oi := ({ dst := some 100, op := Op.move (Operand.tmp 15), type := 3, pos := "cost.go:83", after := #[], guard := none } : Oper)) (v := ?_) rfl (by kernel_rfl) (by kernel_rfl) (by kernel_rfl) (fun _ _ _ h => h) (Or.inl ⟨by rfl, ?_⟩) (by assumption) ?_
            rotate_left 1
            · intro w hSw; (try dsimp only at hSw); go_simp; try with_reducible rfl
            (try simp only [Act.put, List.setIfInBounds_toArray, List.set_cons_zero, List.set_cons_succ])
            refine wpAnyH_take (i := 7) (oi := ({ dst := some 101, op := Op.indexAddr 32 (Operand.tmp 99) (Operand.tmp 100), type := 0, pos := "cost.go:83", after := #[{ on := 5, ground := Ground.data }, { on := 6, ground := Ground.data }], guard := none } : Oper)) (v := ?_) rfl (by kernel_rfl) (by kernel_rfl) (by kernel_rfl) (fun _ _ _ h => h) (Or.inl ⟨by rfl, ?_⟩) (by assumption) ?_
            rotate_left 1
            · intro w hSw; (try dsimp only at hSw); go_simp; try with_reducible rfl
            (try simp only [Act.put, List.setIfInBounds_toArray, List.set_cons_zero, List.set_cons_succ])
            refine wpAnyH_take (i := 8) (oi := ({ dst := some 102, op := Op.load 26 (Operand.tmp 101), type := 26, pos := "cost.go:83", after := #[{ on := 7, ground := Ground.data }], guard := none } : Oper)) (v := ?_) rfl (by kernel_rfl) (by kernel_rfl) (by kernel_rfl) (fun _ _ _ h => h) (Or.inl ⟨by rfl, ?_⟩) (by assumption) ?_
            rotate_left 1
            · intro w hSw; (try dsimp only at hSw); go_simp; try with_reducible rfl
            (try simp only [Act.put, List.setIfInBounds_toArray, List.set_cons_zero, List.set_cons_succ])
            --END
            refine wpAnyH_ready (rs := [9]) (by kernel_rfl) (by simp) ?_
            refine AllReadyH.cons (o := _) rfl (fun K hK => ?_) AllReadyH.nil
            go_simp
            refine hK.out _ _ ⟨k2, n0, n1, n2⟩ (fun hHeld2 => ?_)
            clear hK K hHeld
            (try simp only [Act.put, List.setIfInBounds_toArray, List.set_cons_zero, List.set_cons_succ])
            refine wpAnyH_done (by kernel_rfl) ?_ _
            clear hHeld2 k1 k2 y0 y1 y2 n0 n1 n2 hup
            go_wp2
            go_roundw
            case rel => exact ⟨q + 1, _, by have := HQL.out; omega, by go_num, Lib.hid (by rw [NX.out]; exact H10.out)⟩
            case measure => simp [intOf]; have := HQL.out; omega
          · obtain rfl : q = (innerN l).length := by omega
            have hzt := HG.out.zat
            have hrw := HG.out.row
            rw [List.take_of_length_le (by rw [HO.out]; exact Nat.le_refl _)] at hzt hrw
            have HE := Lib.hid (HB.out.trans (HG.out.below.mono HB.out.size))
            have HZ := Lib.hid hzt
            have HR := Lib.hid (own_lowC hrw HB.out.size)
            clear hzt hrw HG B3
            go_wp2
            go_ret3
            exact ⟨_, _, _, _, _, _, _, rfl, HZ.out, HR.out, HE.out⟩
end Go.Proofs.YtkeclfhhilphpaaDoor
/- cost.Of and cost.All. Conditions: at most 2^20 entities, texts of at most 2^20 bytes; the tables hold what the text gives them. -/
namespace Go.Proofs.YtkeclfhhilphpaaDoor
open Go.RowKit Go.Maps Go.Proofs.YtkeclfhhilphpaaDoor.RefPlain Go.Proofs.YtkeclfhhilphpaaDoor.GraphPlain
set_option linter.unusedVariables false
set_option linter.unusedSimpArgs false
def TellSzE (a : Sz) (er : Int) (w : World) (e : Ending) (w' : World) : Prop := e = .returned (.tuple #[a.v, .int .i64 er]) ∧ Below w.heap.size w w'
/-- All sizes, of entities without loops. -/
def costF (l : List Ent) : SzF := (runZ (innerN l) (orderN (entG l))).1
def costZ (l : List Ent) : List Sz := (runZ (innerN l) (orderN (entG l))).2
set_option maxHeartbeats 4000000 in
theorem cof_ok (A : Option Addr) (n c : Nat) (l : List Ent) (s : ByteArray) (w : World) (hl : EntsAt w A n l) (hn : n ≤ 1048576) (hs : ∀ e ∈ l, e.na.size ≤ maxLen ∧ e.tx.size ≤ 1048576) (hsz : s.size ≤ 1048576) (hf : FormsAt w) (ht : Tabs w) (hk : KnownAt w) (hlp : (orderN (entG l)).length = (innerN l).length) :
    Calls Tryd.prog 8 #[.slice A n c, .string s] w (TellSzE (sizeT (refF (costF l)) (bsOf s)) 0 w) := by
  have hI : (innerN l).length ≤ 1048576 := by have := innerN_len l l.length; rw [List.take_length] at this; have := hl.1; omega
  obtain ⟨W, hW, hsW, hBW, b0⟩ := oneWorld w 26 (.int .i64 0) (.int .i64 0) (.int .i64 0)
  have C := Lib.hid (begun_ok A n c l W (hl.below hBW) hn hs (hf.below hBW hf.size) (ht.below hBW ht.size) (hk.later hBW) hlp)
  have hok := (runZ_ok (inn := innerN l) (orderN (entG l)) (by rw [hlp]; unfold MX; omega) (entD_short l (fun e he => (hs e he).2)) (orderN (entG l)).length).1
  rw [List.take_length] at hok
  have T := Lib.hid (fun (zb M nM : Nat) (y z : Value) (D : DataW Value) (w1 : World) (hB : Below W.heap.size W w1) (hz : ZAt w1 zb M y z nM D (costF l)) =>
    text_any s (orderN (entG l)).length w1 hz ((hk.later hBW).later hB) ((hf.below hBW hf.size).below hB (by have := hf.size; omega)) ((ht.below hBW ht.size).below hB (by have := ht.size; omega)) hok (by rw [hlp]; unfold MX; omega) hsz)
  have BW := Lib.hid hBW
  have B0 := Lib.hid b0
  clear hl hs hf ht hk hlp hok hBW b0
  go_enter Tryd.func8, Tryd.ntmps8
  go_wp2_with fail
  refine C.out.mono ?_
  rintro e w1 ⟨zb, M, ob, nM, y, z, D, rfl, hz, hrow, hB⟩
  have T1 := Lib.hid (T.out zb M nM y z D w1 hB hz)
  have B1 := Lib.hid (B0.out.later hB)
  have BW1 := Lib.hid (BW.out.trans (hB.mono BW.out.size))
  clear hz hrow hB T C
  go_wp2_with fail
  refine T1.out.mono ?_
  rintro e w2 ⟨rfl, hB2⟩
  generalize sizeT (refF (costF l)) (bsOf s) = zz at *
  obtain ⟨zc, zl, zd⟩ := zz
  dsimp only [Sz.v]
  have bV := B1.out.later hB2
  have m0 := bV.m0
  have m1 := bV.m1
  have m2 := bV.m2
  have r0 := bV.c0
  have r1 := bV.c1
  have r2 := bV.c2
  have hBW2 := BW1.out.trans (hB2.mono BW1.out.size)
  have BE := Lib.hid (bV.store (.int .i64 zc) (.int .i64 zl) (.int .i64 zd))
  have HE := Lib.hid (below_store hBW2 (Nat.le_refl _) (.int .i64 zc) (.int .i64 zl) (.int .i64 zd))
  clear bV hB2 hBW2 T1
  go_wp2
  have bE := BE.out
  have hE := HE.out
  clear BE HE
  generalize ((w2.setCell ⟨w.heap.size, 0, none⟩ (.int .i64 zc)).setCell ⟨w.heap.size, 1, none⟩ (.int .i64 zl)).setCell ⟨w.heap.size, 2, none⟩ (.int .i64 zd) = V at bE hE ⊢
  have c0 := bE.c0
  have c1 := bE.c1
  have c2 := bE.c2
  refine bodyPost_ret (v := .tuple #[(⟨zc, zl, zd⟩ : Sz).v, .int .i64 0]) (by simp [results, Tryd.results8, go_sem, c0, c1, c2]; rfl) rfl ?_
  exact ⟨rfl, hE⟩
set_option maxHeartbeats 4000000 in
theorem cof_loop (A : Option Addr) (n c : Nat) (l : List Ent) (s : ByteArray) (w : World) (hl : EntsAt w A n l) (hn : n ≤ 1048576) (hs : ∀ e ∈ l, e.na.size ≤ maxLen ∧ e.tx.size ≤ 1048576) (hf : FormsAt w) (ht : Tabs w) (hlp : (orderN (entG l)).length < (innerN l).length) :
    Calls Tryd.prog 8 #[.slice A n c, .string s] w (TellSzE ⟨0, 0, 0⟩ 8 w) := by
  obtain ⟨W, hW, hsW, hBW, b0⟩ := oneWorld w 26 (.int .i64 0) (.int .i64 0) (.int .i64 0)
  have C := Lib.hid (begun_loop A n c l W (hl.below hBW) hn hs (hf.below hBW hf.size) (ht.below hBW ht.size) hlp)
  have BW := Lib.hid hBW
  have B0 := Lib.hid b0
  clear hl hs hf ht hlp hBW b0
  go_enter Tryd.func8, Tryd.ntmps8
  go_wp2_with fail
  refine C.out.mono ?_
  rintro e w2 ⟨rfl, hB⟩
  have bV := B0.out.later hB
  have m0 := bV.m0
  have m1 := bV.m1
  have m2 := bV.m2
  have r0 := bV.c0
  have r1 := bV.c1
  have r2 := bV.c2
  have hBW2 := BW.out.trans (hB.mono BW.out.size)
  have BE := Lib.hid (bV.store (.int .i64 0) (.int .i64 0) (.int .i64 0))
  have HE := Lib.hid (below_store hBW2 (Nat.le_refl _) (.int .i64 0) (.int .i64 0) (.int .i64 0))
  clear bV hB hBW2
  go_wp2
  have bE := BE.out
  have hE := HE.out
  clear BE HE
  generalize ((w2.setCell ⟨w.heap.size, 0, none⟩ (.int .i64 0)).setCell ⟨w.heap.size, 1, none⟩ (.int .i64 0)).setCell ⟨w.heap.size, 2, none⟩ (.int .i64 0) = V at bE hE ⊢
  have c0 := bE.c0
  have c1 := bE.c1
  have c2 := bE.c2
  refine bodyPost_ret (v := .tuple #[(⟨0, 0, 0⟩ : Sz).v, .int .i64 8]) (by simp [results, Tryd.results8, go_sem, c0, c1, c2]; rfl) rfl ?_
  exact ⟨rfl, hE⟩
theorem call_loop (A : Option Addr) (n c : Nat) (l : List Ent) (w : World) (hl : EntsAt w A n l) (hn : n ≤ 1048576) (hs : ∀ e ∈ l, e.na.size ≤ maxLen ∧ e.tx.size ≤ 1048576) (hf : FormsAt w) (ht : Tabs w) (hlp : (orderN (entG l)).length < (innerN l).length) :
    Calls Tryd.prog 10 #[.slice A n c] w fun e w' => e = .returned (.tuple #[.slice none 0 0, .int .i64 8]) ∧ Below w.heap.size w w' := by
  have C := Lib.hid (begun_loop A n c l w hl hn hs hf ht hlp)
  clear hl hs hf ht hlp
  go_enter Tryd.func10, Tryd.ntmps10
  go_wp2_with fail
  refine C.out.mono ?_
  rintro e w2 ⟨rfl, hB⟩
  have HB := Lib.hid hB
  clear hB
  go_wp2
  go_ret2
  exact ⟨rfl, HB.out⟩
def TellAll (l : List Ent) (w : World) (e : Ending) (w' : World) : Prop := ∃ ob, e = .returned (.tuple #[.slice (some ⟨ob, 0, none⟩) (innerN l).length (innerN l).length, .int .i64 0]) ∧
  w'.ownsRow w.heap.size 26 3 (.slice (some ⟨ob, 0, none⟩) (innerN l).length (innerN l).length) (innerN l).length (szCells (costZ l)) ∧ Below w.heap.size w w'
theorem call_ok (A : Option Addr) (n c : Nat) (l : List Ent) (w : World) (hl : EntsAt w A n l) (hn : n ≤ 1048576) (hs : ∀ e ∈ l, e.na.size ≤ maxLen ∧ e.tx.size ≤ 1048576) (hf : FormsAt w) (ht : Tabs w) (hk : KnownAt w) (hlp : (orderN (entG l)).length = (innerN l).length) :
    Calls Tryd.prog 10 #[.slice A n c] w (TellAll l w) := by
  have C := Lib.hid (begun_ok A n c l w hl hn hs hf ht hk hlp)
  clear hl hs hf ht hlp hk
  go_enter Tryd.func10, Tryd.ntmps10
  go_wp2_with fail
  refine C.out.mono ?_
  rintro e w1 ⟨zb, M, ob, nM, y, z, D, rfl, hz, hrow, hB⟩
  have HB := Lib.hid hB
  have HR := Lib.hid hrow
  clear hB hrow hz
  go_wp2
  go_ret2
  exact ⟨ob, rfl, HR.out, HB.out⟩
end Go.Proofs.YtkeclfhhilphpaaDoor
/- The page's example of layer 20 holds. Conditions: the tables hold what the text gives them. -/
namespace Go.Proofs.YtkeclfhhilphpaaDoor
open Go.RowKit Go.Maps Go.Proofs.YtkeclfhhilphpaaDoor.RefPlain Go.Proofs.YtkeclfhhilphpaaDoor.GraphPlain
set_option linter.unusedVariables false
set_option linter.unusedSimpArgs false
def entA20 : Ent := ⟨⟨#[97]⟩, ⟨#[120, 120]⟩, false, ⟨#[]⟩, ⟨#[]⟩, ⟨#[]⟩⟩
def entB20 : Ent := ⟨⟨#[98]⟩, ⟨#[38, 97, 59, 38, 97, 59]⟩, false, ⟨#[]⟩, ⟨#[]⟩, ⟨#[]⟩⟩
theorem live20_order : (orderN (entG [entA20, entB20])).length = (innerN [entA20, entB20]).length := by decide +kernel
theorem live20_size : sizeT (refF (costF [entA20, entB20])) (bsOf ⟨#[38, 98, 59]⟩) = ⟨13, 4, 2⟩ := by decide +kernel
def entsLit (e d : Ent) : List Value := [.string e.na, .string e.tx, .bool e.out, .string e.pu, .string e.sy, .string e.no, .string d.na, .string d.tx, .bool d.out, .string d.pu, .string d.sy, .string d.no]
theorem entsLit_at (w : World) (e d : Ent) (t : TypeId) : EntsAt (w.alloc (.cells (entsLit e d).toArray t)) (some ⟨w.heap.size, 0, none⟩) 2 [e, d] := by
  have hh := heap_alloc_new w (.cells (entsLit e d).toArray t)
  have hl : w.heap.size < (w.alloc (.cells (entsLit e d).toArray t)).heap.size := by simp
  generalize w.alloc _ = W at *
  refine ⟨rfl, fun i hi => ⟨_, [e, d][i], rfl, List.getElem?_eq_getElem hi, ?_⟩⟩
  have a0 : (⟨w.heap.size, 0, none⟩ : Addr).add 0 = ⟨w.heap.size, 0, none⟩ := addT _ _
  have a6 : (⟨w.heap.size, 0, none⟩ : Addr).add 6 = ⟨w.heap.size, 6, none⟩ := addT _ _
  match i, hi with
  | 0, _ => rw [show 0 * 6 = 0 from rfl, a0]; exact ⟨hl, by rw [Lib.cell_of_heap hh]; rfl, by rw [Lib.cell_of_heap hh]; rfl, by rw [Lib.cell_of_heap hh]; rfl, by rw [Lib.cell_of_heap hh]; rfl, by rw [Lib.cell_of_heap hh]; rfl, by rw [Lib.cell_of_heap hh]; rfl⟩
  | 1, _ => rw [show 1 * 6 = 6 from rfl, a6]; exact ⟨hl, by rw [Lib.cell_of_heap hh]; rfl, by rw [Lib.cell_of_heap hh]; rfl, by rw [Lib.cell_of_heap hh]; rfl, by rw [Lib.cell_of_heap hh]; rfl, by rw [Lib.cell_of_heap hh]; rfl, by rw [Lib.cell_of_heap hh]; rfl⟩
def LiveEnd (w : World) (e : Ending) (w' : World) : Prop := e = .returned (.bool true) ∧ Below w.heap.size w w'
set_option maxRecDepth 100000 in
set_option maxHeartbeats 4000000 in
theorem live20_any (w : World) (hf : FormsAt w) (ht : Tabs w) (hk : KnownAt w) : Calls Tryd.prog 7 #[] w (LiveEnd w) := by
  have hE := entsLit_at w entA20 entB20 44
  have hB : Below w.heap.size w (w.alloc (.cells (entsLit entA20 entB20).toArray 44)) := (Below.refl _ w).alloc (Nat.le_refl _) _
  have C := cof_ok _ 2 2 _ ⟨#[38, 98, 59]⟩ _ hE (by decide) (by intro e he; rcases List.mem_cons.1 he with rfl | he; exact ⟨by decide, by decide⟩; rcases List.mem_cons.1 he with rfl | he; exact ⟨by decide, by decide⟩; cases he) (by decide) (hf.below hB hf.size) (ht.below hB ht.size) (hk.later hB) live20_order
  rw [live20_size] at C
  have C := Lib.hid C
  have HB := Lib.hid hB
  have E := sizeEq 13 4 2 13 4 2
  clear hf ht hk hE hB
  go_enter Tryd.func7, Tryd.ntmps7
  go_wp2_with fail
  refine C.out.mono ?_
  rintro e w1 ⟨rfl, hB1⟩
  have H1 := Lib.hid (HB.out.trans (hB1.mono HB.out.size))
  clear hB1
  dsimp only [Sz.v]
  go_wp2
  go_ret
  exact ⟨rfl, H1.out.alloc H1.out.size _⟩
end Go.Proofs.YtkeclfhhilphpaaDoor
/- narthexref20.Loops. Conditions: at most 2^20 entities, texts of at most 2^20 bytes. -/
namespace Go.Proofs.YtkeclfhhilphpaaDoor
open Go.RowKit Go.Maps Go.Proofs.YtkeclfhhilphpaaDoor.RefPlain Go.Proofs.YtkeclfhhilphpaaDoor.GraphPlain
set_option linter.unusedVariables false
set_option linter.unusedSimpArgs false
def loopsN (l : List Ent) : Bool := decide (0 ≤ loopN (entG l))
theorem entG_len (l : List Ent) : (entG l).length = (innerN l).length := by unfold entG; simp
theorem loops_no {l : List Ent} (h : loopsN l = false) : (orderN (entG l)).length = (innerN l).length := by
  rw [← entG_len]
  refine (loopN_full (entG_ok l)).2 ?_
  unfold loopsN at h
  have h : ¬ 0 ≤ loopN (entG l) := by simpa using h
  unfold loopN at h ⊢
  split
  · rename_i i hi
    rw [hi] at h
    exact absurd (show (0 : Int) ≤ (i : Int) by omega) h
  · rfl
theorem loops_yes {l : List Ent} (h : loopsN l = true) : (orderN (entG l)).length < (innerN l).length := by
  have h1 := (orderN_good (entG l)).len
  rw [entG_len] at h1
  rcases Nat.lt_or_ge (orderN (entG l)).length (innerN l).length with h2 | h2
  · exact h2
  · exfalso
    have h3 := (loopN_full (entG_ok l)).1 (by rw [entG_len]; omega)
    unfold loopsN at h
    rw [h3] at h
    exact absurd h (by decide)
set_option maxHeartbeats 4000000 in
theorem rloops_any (A : Option Addr) (n c : Nat) (l : List Ent) (w : World) (hl : EntsAt w A n l) (hn : n ≤ 1048576) (hs : ∀ e ∈ l, e.tx.size ≤ 1048576) :
    Calls Tryd.prog 6 #[.slice A n c] w fun e w' => e = .returned (.bool (loopsN l)) ∧ Below w.heap.size w w' := by
  have C := Lib.hid (rof_any A n c l w hl hn hs)
  have HI : (innerN l).length ≤ 1048576 := by have := innerN_len l l.length; rw [List.take_length] at this; have := hl.1; omega
  have RB := Lib.hid (rows_short l hs)
  clear hl hs
  go_enter Tryd.func6, Tryd.ntmps6
  go_wp2_with fail
  refine C.out.mono ?_
  rintro e w1 ⟨An, cn, At, ct, rfl, hT, hG, hB⟩
  have L := Lib.hid (rloop_any An (innerN l).length cn At (innerN l).length ct (entG l) w1 (by have := hG; rwa [List.length_map] at this) (entG_ok l) RB.out HI)
  have HB := Lib.hid hB
  clear hT hG hB C
  unfold grV at L ⊢
  go_wp2_with fail
  refine L.out.mono ?_
  rintro e w2 ⟨rfl, hB2⟩
  have HB2 := Lib.hid (HB.out.trans (hB2.mono HB.out.size))
  clear hB2 L HB
  go_wp2
  go_ret
  exact ⟨rfl, HB2.out⟩
end Go.Proofs.YtkeclfhhilphpaaDoor
