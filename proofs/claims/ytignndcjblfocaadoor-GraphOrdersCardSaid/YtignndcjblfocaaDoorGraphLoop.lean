/- graph.Loop (printed by gen-graphloop.py). Conditions: a graph of at most 2^20 places in all rows. -/
import Derived.Test.YtignndcjblfocaaDoorGraphReached
import Derived.Test.YtignndcjblfocaaDoorGraphOrders
import Derived.Test.YtignndcjblfocaaDoorGraphLeadsL
import Derived.Test.YtignndcjblfocaaDoorRegionsT
import Derived.Test.YtignndcjblfocaaDoorShelf
namespace Go.Proofs.YtignndcjblfocaaDoor
set_option linter.unusedVariables false
set_option linter.unusedSimpArgs false
open Go.RowKit Go.Proofs.YtignndcjblfocaaDoor.GraphPlain
def LoopTold (k : Int) (ok : Bool) (w : World) (e : Ending) (w' : World) : Prop := e = .returned (.tuple #[.int .i64 k, .bool ok]) ∧ Below w.heap.size w w'
theorem containsOwn (A : Option Addr) (c i base : Nat) (l : List Nat) (w : World) (h : w.ownsRow base 3 1 (.slice A l.length c) l.length (natCells l)) (hl : l.length ≤ 9223372036854775807) :
    Calls Tryd.prog 31 #[.slice A l.length c, .int .i64 i] w fun e w' => e = .returned (.bool (l.contains i)) ∧ w' = w := by
  cases hl0 : l with
  | nil =>
    have := Tryd.slices_Contains_int_empty A c i w
    simpa using this
  | cons x xs =>
    rw [← hl0]
    obtain ⟨n, hn⟩ : ∃ n, l.length = n + 1 := ⟨xs.length, by rw [hl0]; rfl⟩
    have h' := h
    rw [hn] at h'
    obtain ⟨g, c', e, _, _, _⟩ := own_atG h'
    cases e
    clear h'
    have key := Tryd.slices_Contains_int g 0 l.length c (l.map Int.ofNat) (i : Int) w (by simp) hl (fun j hj => by
      have hj' : j < l.length := by simpa using hj
      have := h.cells rfl j (.int .i64 ((l[j] : Nat) : Int)) (by unfold natCells; rw [List.getElem?_map, List.getElem?_eq_getElem hj']; rfl)
      rw [addT] at this
      rw [Nat.zero_add, this, List.getD_eq_getElem?_getD, List.getElem?_map, List.getElem?_eq_getElem hj']; rfl)
    refine key.mono fun e w' ⟨h1, h2⟩ => ⟨?_, h2⟩
    rw [h1]
    congr 2
    rw [List.take_of_length_le (by simp), Bool.eq_iff_iff]
    simp
    constructor
    · rintro ⟨a, ha, e⟩
      obtain rfl : a = i := by omega
      exact ha
    · intro h'; exact ⟨i, h', rfl⟩
theorem reach_self {G : Gr} {i : Nat} (hi : i < G.length) : (reachL G i).contains i = mk (leadsN G i) i := by
  rw [Bool.eq_iff_iff]
  unfold reachL
  simp [hi]
theorem loopN_full {G : Gr} (hG : okG G) : (orderN G).length = G.length ↔ loopN G = -1 := by
  rw [order_full_iff hG]
  constructor
  · intro h
    exact loopN_no fun j hj => by
      cases hm : mk (leadsN G j) j with
      | false => rfl
      | true => exact absurd ⟨j, hj, (leadsN_iff hG j j).1 hm⟩ h
  · rintro h ⟨i, hi, hw⟩
    unfold loopN at h
    cases hf : (List.range G.length).find? (fun i => mk (leadsN G i) i) with
    | some k => rw [hf] at h; exact absurd h (by show ¬ ((k : Nat) : Int) = -1; omega)
    | none =>
      rw [List.find?_eq_none] at hf
      exact hf i (List.mem_range.2 hi) ((leadsN_iff hG i i).2 hw)
theorem loopN_at {G : Gr} {k : Nat} (h : loopN G = (k : Int)) : k < G.length ∧ mk (leadsN G k) k = true ∧ ∀ j, j < k → mk (leadsN G j) j = false := by
  unfold loopN at h
  cases hf : (List.range G.length).find? (fun i => mk (leadsN G i) i) with
  | none => rw [hf] at h; exact absurd h (by show ¬ (-1 : Int) = ((k : Nat) : Int); omega)
  | some i =>
    rw [hf] at h
    obtain rfl : i = k := by have h : ((i : Nat) : Int) = ((k : Nat) : Int) := h; omega
    rw [List.find?_range_eq_some] at hf
    refine ⟨by simpa using hf.2.1, hf.1, fun j hj => ?_⟩
    have := hf.2.2 j hj
    simpa using this
set_option maxRecDepth 100000 in
set_option maxHeartbeats 4000000 in
theorem loop_bad (An : Option Addr) (nn cn : Nat) (At : Option Addr) (nt ct : Nat) (R : List (List Int)) (w : World) (hg : GrAt w At nt R) (hb : ∀ r ∈ R, r.length ≤ 9223372036854775806) (hnt : nt ≤ 1048576) (hr : rightN nn R = false) :
    Calls Tryd.prog 17 #[grV An nn cn At nt ct] w (LoopTold 0 false w) := by
  obtain ⟨W, hW, hB, hz, c0, c1⟩ := grBox w An nn cn At nt ct 28
  have hB0 : Below w.heap.size w W.drew := hB.trans ⟨rfl, rfl, rfl, Nat.le_refl _, fun _ _ => rfl⟩
  have hz0 : W.drew.heap.size = w.heap.size + 1 := hz
  have C := right_any An nn cn At nt ct R W.drew (hg.below hB0) hb (by omega)
  rw [hr] at C
  have C := Lib.hid C
  have HB := Lib.hid hB0
  have HG := Lib.hid (hg.below hB0)
  clear hB hB0 hg hb hr
  unfold grV at C ⊢
  go_enter Tryd.func17, Tryd.ntmps17
  go_wp2_with fail
  have c0d : W.drew.cell? ⟨w.heap.size, 0, none⟩ = some (.slice An nn cn) := c0
  have c1d : W.drew.cell? ⟨w.heap.size, 1, none⟩ = some (.slice At nt ct) := c1
  refine wp_region_late [(1, fun w' => w'.cell? ⟨w.heap.size, 0, none⟩ = some (.slice An nn cn) ∧ w'.cell? ⟨w.heap.size, 1, none⟩ = some (.slice At nt ct))] (by kernel_rfl) ⟨.inr ⟨c0d, c1d⟩, trivial⟩ (fun hC0 => ?_)
  clear c0 c1
  generalize W.drew = W0 at *
  refine wpAnyL_takeT (i := 0) 0 8 (oi := ({ dst := some 5, op := Op.load 28 (Operand.tmp 1), type := 28, pos := "graph.go:92", after := #[], guard := none } : Oper)) (v := ?_) rfl (by kernel_rfl) (by kernel_rfl) (by kernel_rfl) rfl (by kernel_rfl) (by kernel_rfl) (by kernel_rfl) (by kernel_rfl) (fun _ _ _ h => h) (Or.inl ⟨by rfl, ?_⟩) (by assumption) (by kernel_rfl) ?_
  rotate_left 1
  · intro w hSw; (try dsimp only at hSw); go_simp; try with_reducible rfl
  (try simp only [Act.put, List.setIfInBounds_toArray, List.set_cons_zero, List.set_cons_succ])
  refine wpAnyL_ready (rs := [1]) (by kernel_rfl) (by simp) ?_
  refine AllReadyL.cons (o := _) rfl (fun K hK => ?_) AllReadyL.nil
  go_simp
  refine C.out.mono ?_
  rintro e w2 ⟨rfl, hB2⟩
  have d0 := (hB2.cell (p := ⟨w.heap.size, 0, none⟩) (by show w.heap.size < _; omega)).trans c0d
  have d1 := (hB2.cell (p := ⟨w.heap.size, 1, none⟩) (by show w.heap.size < _; omega)).trans c1d
  have HB2 := Lib.hid (HB.out.trans (hB2.mono (by omega)))
  clear hB2 c0d c1d hC0
  refine hK.out _ _ ⟨.inl (by kernel_rfl), trivial⟩ (fun hC0 => ?_)
  clear hK K
  (try simp only [Act.put, List.setIfInBounds_toArray, List.set_cons_zero, List.set_cons_succ])
  refine wpAnyL_pure (i := 2) (oi := ({ dst := some 7, op := Op.unOp UnOp.not 4 (Operand.tmp 6), type := 4, pos := "graph.go:92", after := #[{ on := 1, ground := Ground.data }], guard := none } : Oper)) (v := ?_) rfl (by kernel_rfl) (by kernel_rfl) (by kernel_rfl) (by kernel_rfl) (fun _ _ _ h => h) (Or.inl ⟨by rfl, ?_⟩) (by assumption) (by kernel_rfl) ?_
  rotate_left 1
  · intro w hSw; clear hSw; go_simp; try with_reducible rfl
  (try simp only [Act.put, List.setIfInBounds_toArray, List.set_cons_zero, List.set_cons_succ])
  refine wpAnyL_pure (i := 3) (oi := ({ dst := some 8, op := Op.move (Operand.tmp 7), type := 4, pos := "graph.go:92", after := #[{ on := 2, ground := Ground.data }, { on := 1, ground := Ground.chain }], guard := none } : Oper)) (v := ?_) rfl (by kernel_rfl) (by kernel_rfl) (by kernel_rfl) (by kernel_rfl) (fun _ _ _ h => h) (Or.inl ⟨by rfl, ?_⟩) (by assumption) (by kernel_rfl) ?_
  rotate_left 1
  · intro w hSw; clear hSw; go_simp; try with_reducible rfl
  (try simp only [Act.put, List.setIfInBounds_toArray, List.set_cons_zero, List.set_cons_succ])
  refine wpAnyL_pure (i := 4) (oi := ({ dst := some 9, op := Op.load 28 (Operand.tmp 1), type := 28, pos := "graph.go:92", after := #[{ on := 3, ground := Ground.guard }], guard := some (3, false) } : Oper)) (v := undef) rfl (by kernel_rfl) (by kernel_rfl) (by kernel_rfl) (by kernel_rfl) (fun _ _ _ h => h) (Or.inr ⟨by rfl, rfl⟩) (by assumption) (by kernel_rfl) ?_
  (try simp only [Act.put, List.setIfInBounds_toArray, List.set_cons_zero, List.set_cons_succ])
  refine wpAnyL_pure (i := 5) (oi := ({ dst := some 10, op := Op.call { callee := Callee.value (Operand.func 30), args := #[Operand.tmp 9], argTypes := #[28] }, type := 35, pos := "graph.go:92", after := #[{ on := 4, ground := Ground.data }, { on := 3, ground := Ground.chain }, { on := 3, ground := Ground.guard }], guard := some (3, false) } : Oper)) (v := undef) rfl (by kernel_rfl) (by kernel_rfl) (by kernel_rfl) (by kernel_rfl) (fun _ _ _ h => h) (Or.inr ⟨by rfl, rfl⟩) (by assumption) (by kernel_rfl) ?_
  (try simp only [Act.put, List.setIfInBounds_toArray, List.set_cons_zero, List.set_cons_succ])
  refine wpAnyL_pure (i := 6) (oi := ({ dst := some 11, op := Op.call { callee := Callee.builtin Builtin.len, args := #[Operand.tmp 10], argTypes := #[35] }, type := 3, pos := "graph.go:92", after := #[{ on := 5, ground := Ground.data }, { on := 3, ground := Ground.guard }], guard := some (3, false) } : Oper)) (v := undef) rfl (by kernel_rfl) (by kernel_rfl) (by kernel_rfl) (by kernel_rfl) (fun _ _ _ h => h) (Or.inr ⟨by rfl, rfl⟩) (by assumption) (by kernel_rfl) ?_
  (try simp only [Act.put, List.setIfInBounds_toArray, List.set_cons_zero, List.set_cons_succ])
  refine wpAnyL_pure (i := 7) (oi := ({ dst := some 12, op := Op.fieldAddr 28 (Operand.tmp 1) 1, type := 0, pos := "graph.go:92", after := #[{ on := 3, ground := Ground.guard }], guard := some (3, false) } : Oper)) (v := undef) rfl (by kernel_rfl) (by kernel_rfl) (by kernel_rfl) (by kernel_rfl) (fun _ _ _ h => h) (Or.inr ⟨by rfl, rfl⟩) (by assumption) (by kernel_rfl) ?_
  (try simp only [Act.put, List.setIfInBounds_toArray, List.set_cons_zero, List.set_cons_succ])
  refine wpAnyL_pure (i := 8) (oi := ({ dst := some 13, op := Op.load 26 (Operand.tmp 12), type := 26, pos := "graph.go:92", after := #[{ on := 7, ground := Ground.data }, { on := 3, ground := Ground.guard }], guard := some (3, false) } : Oper)) (v := undef) rfl (by kernel_rfl) (by kernel_rfl) (by kernel_rfl) (by kernel_rfl) (fun _ _ _ h => h) (Or.inr ⟨by rfl, rfl⟩) (by assumption) (by kernel_rfl) ?_
  (try simp only [Act.put, List.setIfInBounds_toArray, List.set_cons_zero, List.set_cons_succ])
  refine wpAnyL_pure (i := 9) (oi := ({ dst := some 14, op := Op.call { callee := Callee.builtin Builtin.len, args := #[Operand.tmp 13], argTypes := #[26] }, type := 3, pos := "graph.go:92", after := #[{ on := 8, ground := Ground.data }, { on := 3, ground := Ground.guard }], guard := some (3, false) } : Oper)) (v := undef) rfl (by kernel_rfl) (by kernel_rfl) (by kernel_rfl) (by kernel_rfl) (fun _ _ _ h => h) (Or.inr ⟨by rfl, rfl⟩) (by assumption) (by kernel_rfl) ?_
  (try simp only [Act.put, List.setIfInBounds_toArray, List.set_cons_zero, List.set_cons_succ])
  refine wpAnyL_pure (i := 10) (oi := ({ dst := some 15, op := Op.binOp BinOp.eql 3 (Operand.tmp 11) (Operand.tmp 14) 3, type := 4, pos := "graph.go:92", after := #[{ on := 6, ground := Ground.data }, { on := 9, ground := Ground.data }, { on := 3, ground := Ground.guard }], guard := some (3, false) } : Oper)) (v := undef) rfl (by kernel_rfl) (by kernel_rfl) (by kernel_rfl) (by kernel_rfl) (fun _ _ _ h => h) (Or.inr ⟨by rfl, rfl⟩) (by assumption) (by kernel_rfl) ?_
  (try simp only [Act.put, List.setIfInBounds_toArray, List.set_cons_zero, List.set_cons_succ])
  refine wpAnyL_pure (i := 11) (oi := ({ dst := some 16, op := Op.pick (Operand.tmp 8) (Operand.const (Value.bool true)) (Operand.tmp 15), type := 4, pos := "graph.go:92", after := #[{ on := 3, ground := Ground.data }, { on := 10, ground := Ground.data }], guard := none } : Oper)) (v := ?_) rfl (by kernel_rfl) (by kernel_rfl) (by kernel_rfl) (by kernel_rfl) (fun _ _ _ h => h) (Or.inl ⟨by rfl, ?_⟩) (by assumption) (by kernel_rfl) ?_
  rotate_left 1
  · intro w hSw; clear hSw; go_simp; try with_reducible rfl
  (try simp only [Act.put, List.setIfInBounds_toArray, List.set_cons_zero, List.set_cons_succ])
  refine wpAnyL_done (by kernel_rfl) ?_ _
  go_wp2
  go_ret2
  exact ⟨rfl, HB2.out⟩
set_option maxRecDepth 100000 in
set_option maxHeartbeats 8000000 in
theorem loop_none (An : Option Addr) (nn cn : Nat) (At : Option Addr) (nt ct : Nat) (G : Gr) (w : World) (hg : GrAt w At nt (intG G)) (hnil : GrNil w At nt) (hok : okG G) (hM : total G ≤ 1048576) (hnt : nt ≤ 1048576) (hr : rightN nn (intG G) = true) (hlp : loopN G = -1) :
    Calls Tryd.prog 17 #[grV An nn cn At nt ct] w (LoopTold 0 false w) := by
  have hb : ∀ r ∈ intG G, r.length ≤ 9223372036854775806 := fun r hr => by
    obtain ⟨i, hi, rfl⟩ := List.getElem_of_mem hr
    rw [(intG_at (List.getElem?_eq_getElem hi)).1, List.length_map]
    have := row_total G i; omega
  obtain ⟨W, hW, hB, hz, c0, c1⟩ := grBox w An nn cn At nt ct 28
  have hB0 : Below w.heap.size w W.drew := hB.trans ⟨rfl, rfl, rfl, Nat.le_refl _, fun _ _ => rfl⟩
  have hz0 : W.drew.heap.size = w.heap.size + 1 := hz
  have C := right_any An nn cn At nt ct (intG G) W.drew (hg.below hB0) hb (by omega)
  rw [hr] at C
  have C := Lib.hid C
  have HB := Lib.hid hB0
  have HG := Lib.hid (hg.below hB0)
  have HNL := Lib.hid (hnil.below hg hB0)
  have HN := Lib.hid (show G.length = nt by have := hg.1; unfold intG at this; simpa using this)
  have hlen := (orderN_good G).len
  rw [HN.out] at hlen
  have ho : (orderN G).length = nt := by rw [← HN.out]; exact (loopN_full hok).2 hlp
  have HL := Lib.hid hb
  have HOK := Lib.hid hok
  clear hB hB0 hg hb hr hok hnil
  unfold grV at C ⊢
  go_enter Tryd.func17, Tryd.ntmps17
  go_wp2_with fail
  have c0d : W.drew.cell? ⟨w.heap.size, 0, none⟩ = some (.slice An nn cn) := c0
  have c1d : W.drew.cell? ⟨w.heap.size, 1, none⟩ = some (.slice At nt ct) := c1
  refine wp_region_late [(11, fun w' => w'.cell? ⟨w.heap.size, 0, none⟩ = some (.slice An nn cn) ∧ w'.cell? ⟨w.heap.size, 1, none⟩ = some (.slice At nt ct))] (by kernel_rfl) ⟨.inr ⟨c0d, c1d⟩, trivial⟩ (fun hC0 => ?_)
  clear c0 c1
  generalize W.drew = W0 at *
  refine wpAnyL_takeT (i := 0) 0 8 (oi := ({ dst := some 5, op := Op.load 28 (Operand.tmp 1), type := 28, pos := "graph.go:92", after := #[], guard := none } : Oper)) (v := ?_) rfl (by kernel_rfl) (by kernel_rfl) (by kernel_rfl) rfl (by kernel_rfl) (by kernel_rfl) (by kernel_rfl) (by kernel_rfl) (fun _ _ _ h => h) (Or.inl ⟨by rfl, ?_⟩) (by assumption) (by kernel_rfl) ?_
  rotate_left 1
  · intro w hSw; (try dsimp only at hSw); go_simp; try with_reducible rfl
  (try simp only [Act.put, List.setIfInBounds_toArray, List.set_cons_zero, List.set_cons_succ])
  refine wpAnyL_ready (rs := [1]) (by kernel_rfl) (by simp) ?_
  refine AllReadyL.cons (o := _) rfl (fun K hK => ?_) AllReadyL.nil
  go_simp
  refine C.out.mono ?_
  rintro e w2 ⟨rfl, hB2⟩
  have d0 := (hB2.cell (p := ⟨w.heap.size, 0, none⟩) (by show w.heap.size < _; omega)).trans c0d
  have d1 := (hB2.cell (p := ⟨w.heap.size, 1, none⟩) (by show w.heap.size < _; omega)).trans c1d
  have HB2 := Lib.hid (HB.out.trans (hB2.mono (by omega)))
  have HG2 := Lib.hid (HG.out.below hB2)
  have HNL2 := Lib.hid (HNL.out.below HG.out hB2)
  have hz2 := hB2.size
  have CO := Lib.hid (order_any An nn cn At nt ct G w2 HG2.out HOK.out HL.out hnt)
  unfold grV at CO
  clear hB2 c0d c1d hC0 HG HB HNL C
  refine hK.out _ _ ⟨.inr ⟨d0, d1⟩, trivial⟩ (fun hC0 => ?_)
  clear hK K
  (try simp only [Act.put, List.setIfInBounds_toArray, List.set_cons_zero, List.set_cons_succ])
  refine wpAnyL_pure (i := 2) (oi := ({ dst := some 7, op := Op.unOp UnOp.not 4 (Operand.tmp 6), type := 4, pos := "graph.go:92", after := #[{ on := 1, ground := Ground.data }], guard := none } : Oper)) (v := ?_) rfl (by kernel_rfl) (by kernel_rfl) (by kernel_rfl) (by kernel_rfl) (fun _ _ _ h => h) (Or.inl ⟨by rfl, ?_⟩) (by assumption) (by kernel_rfl) ?_
  rotate_left 1
  · intro w hSw; clear hSw; go_simp; try with_reducible rfl
  (try simp only [Act.put, List.setIfInBounds_toArray, List.set_cons_zero, List.set_cons_succ])
  refine wpAnyL_pure (i := 3) (oi := ({ dst := some 8, op := Op.move (Operand.tmp 7), type := 4, pos := "graph.go:92", after := #[{ on := 2, ground := Ground.data }, { on := 1, ground := Ground.chain }], guard := none } : Oper)) (v := ?_) rfl (by kernel_rfl) (by kernel_rfl) (by kernel_rfl) (by kernel_rfl) (fun _ _ _ h => h) (Or.inl ⟨by rfl, ?_⟩) (by assumption) (by kernel_rfl) ?_
  rotate_left 1
  · intro w hSw; clear hSw; go_simp; try with_reducible rfl
  (try simp only [Act.put, List.setIfInBounds_toArray, List.set_cons_zero, List.set_cons_succ])
  refine wpAnyL_takeT (i := 4) 0 8 (oi := ({ dst := some 9, op := Op.load 28 (Operand.tmp 1), type := 28, pos := "graph.go:92", after := #[{ on := 3, ground := Ground.guard }], guard := some (3, false) } : Oper)) (v := ?_) rfl (by kernel_rfl) (by kernel_rfl) (by kernel_rfl) rfl (by kernel_rfl) (by kernel_rfl) (by kernel_rfl) (by kernel_rfl) (fun _ _ _ h => h) (Or.inl ⟨by rfl, ?_⟩) (by assumption) (by kernel_rfl) ?_
  rotate_left 1
  · intro w hSw; (try dsimp only at hSw); go_simp; try with_reducible rfl
  (try simp only [Act.put, List.setIfInBounds_toArray, List.set_cons_zero, List.set_cons_succ])
  refine wpAnyL_pure (i := 7) (oi := ({ dst := some 12, op := Op.fieldAddr 28 (Operand.tmp 1) 1, type := 0, pos := "graph.go:92", after := #[{ on := 3, ground := Ground.guard }], guard := some (3, false) } : Oper)) (v := ?_) rfl (by kernel_rfl) (by kernel_rfl) (by kernel_rfl) (by kernel_rfl) (fun _ _ _ h => h) (Or.inl ⟨by rfl, ?_⟩) (by assumption) (by kernel_rfl) ?_
  rotate_left 1
  · intro w hSw; clear hSw; go_simp; try with_reducible rfl
  (try simp only [Act.put, List.setIfInBounds_toArray, List.set_cons_zero, List.set_cons_succ])
  refine wpAnyL_takeT (i := 8) 0 8 (oi := ({ dst := some 13, op := Op.load 26 (Operand.tmp 12), type := 26, pos := "graph.go:92", after := #[{ on := 7, ground := Ground.data }, { on := 3, ground := Ground.guard }], guard := some (3, false) } : Oper)) (v := ?_) rfl (by kernel_rfl) (by kernel_rfl) (by kernel_rfl) rfl (by kernel_rfl) (by kernel_rfl) (by kernel_rfl) (by kernel_rfl) (fun _ _ _ h => h) (Or.inl ⟨by rfl, ?_⟩) (by assumption) (by kernel_rfl) ?_
  rotate_left 1
  · intro w hSw; (try dsimp only at hSw); go_simp; try with_reducible rfl
  (try simp only [Act.put, List.setIfInBounds_toArray, List.set_cons_zero, List.set_cons_succ])
  refine wpAnyL_pure (i := 9) (oi := ({ dst := some 14, op := Op.call { callee := Callee.builtin Builtin.len, args := #[Operand.tmp 13], argTypes := #[26] }, type := 3, pos := "graph.go:92", after := #[{ on := 8, ground := Ground.data }, { on := 3, ground := Ground.guard }], guard := some (3, false) } : Oper)) (v := ?_) rfl (by kernel_rfl) (by kernel_rfl) (by kernel_rfl) (by kernel_rfl) (fun _ _ _ h => h) (Or.inl ⟨by rfl, ?_⟩) (by assumption) (by kernel_rfl) ?_
  rotate_left 1
  · intro w hSw; clear hSw; go_simp; try with_reducible rfl
  (try simp only [Act.put, List.setIfInBounds_toArray, List.set_cons_zero, List.set_cons_succ])
  refine wpAnyL_ready (rs := [5]) (by kernel_rfl) (by simp) ?_
  refine AllReadyL.cons (o := _) rfl (fun K hK => ?_) AllReadyL.nil
  go_simp
  refine CO.out.mono ?_
  rintro e w3 ⟨A5, c5, rfl, hown, hB3⟩
  have e0 := (hB3.cell (p := ⟨w.heap.size, 0, none⟩) (by show w.heap.size < _; omega)).trans d0
  have e1 := (hB3.cell (p := ⟨w.heap.size, 1, none⟩) (by show w.heap.size < _; omega)).trans d1
  have HB3 := Lib.hid (HB2.out.trans (hB3.mono (by omega)))
  have HG3 := Lib.hid (HG2.out.below hB3)
  have HNL3 := Lib.hid (HNL2.out.below HG2.out hB3)
  have hz3 := hB3.size
  clear hB3 hC0 HG2 HB2 HNL2 CO hown
  refine hK.out _ _ ⟨.inr ⟨e0, e1⟩, trivial⟩ (fun hC0 => ?_)
  clear hK K
  (try simp only [Act.put, List.setIfInBounds_toArray, List.set_cons_zero, List.set_cons_succ])
  refine wpAnyL_pure (i := 6) (oi := ({ dst := some 11, op := Op.call { callee := Callee.builtin Builtin.len, args := #[Operand.tmp 10], argTypes := #[35] }, type := 3, pos := "graph.go:92", after := #[{ on := 5, ground := Ground.data }, { on := 3, ground := Ground.guard }], guard := some (3, false) } : Oper)) (v := ?_) rfl (by kernel_rfl) (by kernel_rfl) (by kernel_rfl) (by kernel_rfl) (fun _ _ _ h => h) (Or.inl ⟨by rfl, ?_⟩) (by assumption) (by kernel_rfl) ?_
  rotate_left 1
  · intro w hSw; clear hSw; go_simp; try with_reducible rfl
  (try simp only [Act.put, List.setIfInBounds_toArray, List.set_cons_zero, List.set_cons_succ])
  generalize (orderN G).length = ol at *
  refine wpAnyL_pure (i := 10) (oi := ({ dst := some 15, op := Op.binOp BinOp.eql 3 (Operand.tmp 11) (Operand.tmp 14) 3, type := 4, pos := "graph.go:92", after := #[{ on := 6, ground := Ground.data }, { on := 9, ground := Ground.data }, { on := 3, ground := Ground.guard }], guard := some (3, false) } : Oper)) (v := ?_) rfl (by kernel_rfl) (by kernel_rfl) (by kernel_rfl) (by kernel_rfl) (fun _ _ _ h => h) (Or.inl ⟨by rfl, ?_⟩) (by assumption) (by kernel_rfl) ?_
  rotate_left 1
  · intro w hSw; clear hSw; go_simp; try with_reducible rfl
  (try simp only [Act.put, List.setIfInBounds_toArray, List.set_cons_zero, List.set_cons_succ])
  refine wpAnyL_ready (rs := [11]) (by kernel_rfl) (by simp) ?_
  refine AllReadyL.cons (o := _) rfl (fun K hK => ?_) AllReadyL.nil
  go_simp
  refine hK.out _ _ ⟨.inl (by kernel_rfl), trivial⟩ (fun hC0 => ?_)
  clear hK K
  (try simp only [Act.put, List.setIfInBounds_toArray, List.set_cons_zero, List.set_cons_succ])
  refine wpAnyL_done (by kernel_rfl) ?_ _
  subst ho
  go_wp2
  go_ret2
  exact ⟨rfl, HB3.out⟩
set_option maxRecDepth 100000 in
set_option maxHeartbeats 8000000 in
theorem loop_some (An : Option Addr) (nn cn : Nat) (At : Option Addr) (nt ct : Nat) (G : Gr) (w : World) (hg : GrAt w At nt (intG G)) (hnil : GrNil w At nt) (hok : okG G) (hM : total G ≤ 1048576) (hnt : nt ≤ 1048576) (hr : rightN nn (intG G) = true) (k : Nat) (hlp : loopN G = (k : Int)) :
    Calls Tryd.prog 17 #[grV An nn cn At nt ct] w (LoopTold k true w) := by
  have hb : ∀ r ∈ intG G, r.length ≤ 9223372036854775806 := fun r hr => by
    obtain ⟨i, hi, rfl⟩ := List.getElem_of_mem hr
    rw [(intG_at (List.getElem?_eq_getElem hi)).1, List.length_map]
    have := row_total G i; omega
  obtain ⟨W, hW, hB, hz, c0, c1⟩ := grBox w An nn cn At nt ct 28
  have hB0 : Below w.heap.size w W.drew := hB.trans ⟨rfl, rfl, rfl, Nat.le_refl _, fun _ _ => rfl⟩
  have hz0 : W.drew.heap.size = w.heap.size + 1 := hz
  have C := right_any An nn cn At nt ct (intG G) W.drew (hg.below hB0) hb (by omega)
  rw [hr] at C
  have C := Lib.hid C
  have HB := Lib.hid hB0
  have HG := Lib.hid (hg.below hB0)
  have HNL := Lib.hid (hnil.below hg hB0)
  have HN := Lib.hid (show G.length = nt by have := hg.1; unfold intG at this; simpa using this)
  have hlen := (orderN_good G).len
  rw [HN.out] at hlen
  have ho : (orderN G).length < nt := by
    rcases Nat.lt_or_ge (orderN G).length nt with h | h
    · exact h
    · have := (loopN_full hok).1 (by rw [HN.out]; omega)
      omega
  obtain ⟨hk1, hk2, hk3⟩ := loopN_at hlp
  rw [HN.out] at hk1
  have HK2 := Lib.hid hk2
  have HK3 := Lib.hid hk3
  clear hk2 hk3 hlp
  have HL := Lib.hid hb
  have HOK := Lib.hid hok
  clear hB hB0 hg hb hr hok hnil
  unfold grV at C ⊢
  go_enter Tryd.func17, Tryd.ntmps17
  go_wp2_with fail
  have c0d : W.drew.cell? ⟨w.heap.size, 0, none⟩ = some (.slice An nn cn) := c0
  have c1d : W.drew.cell? ⟨w.heap.size, 1, none⟩ = some (.slice At nt ct) := c1
  refine wp_region_late [(11, fun w' => w'.cell? ⟨w.heap.size, 0, none⟩ = some (.slice An nn cn) ∧ w'.cell? ⟨w.heap.size, 1, none⟩ = some (.slice At nt ct))] (by kernel_rfl) ⟨.inr ⟨c0d, c1d⟩, trivial⟩ (fun hC0 => ?_)
  clear c0 c1
  generalize W.drew = W0 at *
  refine wpAnyL_takeT (i := 0) 0 8 (oi := ({ dst := some 5, op := Op.load 28 (Operand.tmp 1), type := 28, pos := "graph.go:92", after := #[], guard := none } : Oper)) (v := ?_) rfl (by kernel_rfl) (by kernel_rfl) (by kernel_rfl) rfl (by kernel_rfl) (by kernel_rfl) (by kernel_rfl) (by kernel_rfl) (fun _ _ _ h => h) (Or.inl ⟨by rfl, ?_⟩) (by assumption) (by kernel_rfl) ?_
  rotate_left 1
  · intro w hSw; (try dsimp only at hSw); go_simp; try with_reducible rfl
  (try simp only [Act.put, List.setIfInBounds_toArray, List.set_cons_zero, List.set_cons_succ])
  refine wpAnyL_ready (rs := [1]) (by kernel_rfl) (by simp) ?_
  refine AllReadyL.cons (o := _) rfl (fun K hK => ?_) AllReadyL.nil
  go_simp
  refine C.out.mono ?_
  rintro e w2 ⟨rfl, hB2⟩
  have d0 := (hB2.cell (p := ⟨w.heap.size, 0, none⟩) (by show w.heap.size < _; omega)).trans c0d
  have d1 := (hB2.cell (p := ⟨w.heap.size, 1, none⟩) (by show w.heap.size < _; omega)).trans c1d
  have HB2 := Lib.hid (HB.out.trans (hB2.mono (by omega)))
  have HG2 := Lib.hid (HG.out.below hB2)
  have HNL2 := Lib.hid (HNL.out.below HG.out hB2)
  have hz2 := hB2.size
  have CO := Lib.hid (order_any An nn cn At nt ct G w2 HG2.out HOK.out HL.out hnt)
  unfold grV at CO
  clear hB2 c0d c1d hC0 HG HB HNL C
  refine hK.out _ _ ⟨.inr ⟨d0, d1⟩, trivial⟩ (fun hC0 => ?_)
  clear hK K
  (try simp only [Act.put, List.setIfInBounds_toArray, List.set_cons_zero, List.set_cons_succ])
  refine wpAnyL_pure (i := 2) (oi := ({ dst := some 7, op := Op.unOp UnOp.not 4 (Operand.tmp 6), type := 4, pos := "graph.go:92", after := #[{ on := 1, ground := Ground.data }], guard := none } : Oper)) (v := ?_) rfl (by kernel_rfl) (by kernel_rfl) (by kernel_rfl) (by kernel_rfl) (fun _ _ _ h => h) (Or.inl ⟨by rfl, ?_⟩) (by assumption) (by kernel_rfl) ?_
  rotate_left 1
  · intro w hSw; clear hSw; go_simp; try with_reducible rfl
  (try simp only [Act.put, List.setIfInBounds_toArray, List.set_cons_zero, List.set_cons_succ])
  refine wpAnyL_pure (i := 3) (oi := ({ dst := some 8, op := Op.move (Operand.tmp 7), type := 4, pos := "graph.go:92", after := #[{ on := 2, ground := Ground.data }, { on := 1, ground := Ground.chain }], guard := none } : Oper)) (v := ?_) rfl (by kernel_rfl) (by kernel_rfl) (by kernel_rfl) (by kernel_rfl) (fun _ _ _ h => h) (Or.inl ⟨by rfl, ?_⟩) (by assumption) (by kernel_rfl) ?_
  rotate_left 1
  · intro w hSw; clear hSw; go_simp; try with_reducible rfl
  (try simp only [Act.put, List.setIfInBounds_toArray, List.set_cons_zero, List.set_cons_succ])
  refine wpAnyL_takeT (i := 4) 0 8 (oi := ({ dst := some 9, op := Op.load 28 (Operand.tmp 1), type := 28, pos := "graph.go:92", after := #[{ on := 3, ground := Ground.guard }], guard := some (3, false) } : Oper)) (v := ?_) rfl (by kernel_rfl) (by kernel_rfl) (by kernel_rfl) rfl (by kernel_rfl) (by kernel_rfl) (by kernel_rfl) (by kernel_rfl) (fun _ _ _ h => h) (Or.inl ⟨by rfl, ?_⟩) (by assumption) (by kernel_rfl) ?_
  rotate_left 1
  · intro w hSw; (try dsimp only at hSw); go_simp; try with_reducible rfl
  (try simp only [Act.put, List.setIfInBounds_toArray, List.set_cons_zero, List.set_cons_succ])
  refine wpAnyL_pure (i := 7) (oi := ({ dst := some 12, op := Op.fieldAddr 28 (Operand.tmp 1) 1, type := 0, pos := "graph.go:92", after := #[{ on := 3, ground := Ground.guard }], guard := some (3, false) } : Oper)) (v := ?_) rfl (by kernel_rfl) (by kernel_rfl) (by kernel_rfl) (by kernel_rfl) (fun _ _ _ h => h) (Or.inl ⟨by rfl, ?_⟩) (by assumption) (by kernel_rfl) ?_
  rotate_left 1
  · intro w hSw; clear hSw; go_simp; try with_reducible rfl
  (try simp only [Act.put, List.setIfInBounds_toArray, List.set_cons_zero, List.set_cons_succ])
  refine wpAnyL_takeT (i := 8) 0 8 (oi := ({ dst := some 13, op := Op.load 26 (Operand.tmp 12), type := 26, pos := "graph.go:92", after := #[{ on := 7, ground := Ground.data }, { on := 3, ground := Ground.guard }], guard := some (3, false) } : Oper)) (v := ?_) rfl (by kernel_rfl) (by kernel_rfl) (by kernel_rfl) rfl (by kernel_rfl) (by kernel_rfl) (by kernel_rfl) (by kernel_rfl) (fun _ _ _ h => h) (Or.inl ⟨by rfl, ?_⟩) (by assumption) (by kernel_rfl) ?_
  rotate_left 1
  · intro w hSw; (try dsimp only at hSw); go_simp; try with_reducible rfl
  (try simp only [Act.put, List.setIfInBounds_toArray, List.set_cons_zero, List.set_cons_succ])
  refine wpAnyL_pure (i := 9) (oi := ({ dst := some 14, op := Op.call { callee := Callee.builtin Builtin.len, args := #[Operand.tmp 13], argTypes := #[26] }, type := 3, pos := "graph.go:92", after := #[{ on := 8, ground := Ground.data }, { on := 3, ground := Ground.guard }], guard := some (3, false) } : Oper)) (v := ?_) rfl (by kernel_rfl) (by kernel_rfl) (by kernel_rfl) (by kernel_rfl) (fun _ _ _ h => h) (Or.inl ⟨by rfl, ?_⟩) (by assumption) (by kernel_rfl) ?_
  rotate_left 1
  · intro w hSw; clear hSw; go_simp; try with_reducible rfl
  (try simp only [Act.put, List.setIfInBounds_toArray, List.set_cons_zero, List.set_cons_succ])
  refine wpAnyL_ready (rs := [5]) (by kernel_rfl) (by simp) ?_
  refine AllReadyL.cons (o := _) rfl (fun K hK => ?_) AllReadyL.nil
  go_simp
  refine CO.out.mono ?_
  rintro e w3 ⟨A5, c5, rfl, hown, hB3⟩
  have e0 := (hB3.cell (p := ⟨w.heap.size, 0, none⟩) (by show w.heap.size < _; omega)).trans d0
  have e1 := (hB3.cell (p := ⟨w.heap.size, 1, none⟩) (by show w.heap.size < _; omega)).trans d1
  have HB3 := Lib.hid (HB2.out.trans (hB3.mono (by omega)))
  have HG3 := Lib.hid (HG2.out.below hB3)
  have HNL3 := Lib.hid (HNL2.out.below HG2.out hB3)
  have hz3 := hB3.size
  clear hB3 hC0 HG2 HB2 HNL2 CO hown
  refine hK.out _ _ ⟨.inr ⟨e0, e1⟩, trivial⟩ (fun hC0 => ?_)
  clear hK K
  (try simp only [Act.put, List.setIfInBounds_toArray, List.set_cons_zero, List.set_cons_succ])
  refine wpAnyL_pure (i := 6) (oi := ({ dst := some 11, op := Op.call { callee := Callee.builtin Builtin.len, args := #[Operand.tmp 10], argTypes := #[35] }, type := 3, pos := "graph.go:92", after := #[{ on := 5, ground := Ground.data }, { on := 3, ground := Ground.guard }], guard := some (3, false) } : Oper)) (v := ?_) rfl (by kernel_rfl) (by kernel_rfl) (by kernel_rfl) (by kernel_rfl) (fun _ _ _ h => h) (Or.inl ⟨by rfl, ?_⟩) (by assumption) (by kernel_rfl) ?_
  rotate_left 1
  · intro w hSw; clear hSw; go_simp; try with_reducible rfl
  (try simp only [Act.put, List.setIfInBounds_toArray, List.set_cons_zero, List.set_cons_succ])
  generalize (orderN G).length = ol at *
  have t1b : ((ol : Int) == (nt : Int)) = false := by simp; omega
  refine wpAnyL_pure (i := 10) (oi := ({ dst := some 15, op := Op.binOp BinOp.eql 3 (Operand.tmp 11) (Operand.tmp 14) 3, type := 4, pos := "graph.go:92", after := #[{ on := 6, ground := Ground.data }, { on := 9, ground := Ground.data }, { on := 3, ground := Ground.guard }], guard := some (3, false) } : Oper)) (v := ?_) rfl (by kernel_rfl) (by kernel_rfl) (by kernel_rfl) (by kernel_rfl) (fun _ _ _ h => h) (Or.inl ⟨by rfl, ?_⟩) (by assumption) (by kernel_rfl) ?_
  rotate_left 1
  · intro w hSw; clear hSw; go_simp; try with_reducible rfl
  (try simp only [Act.put, List.setIfInBounds_toArray, List.set_cons_zero, List.set_cons_succ])
  refine wpAnyL_ready (rs := [11]) (by kernel_rfl) (by simp) ?_
  refine AllReadyL.cons (o := _) rfl (fun K hK => ?_) AllReadyL.nil
  go_simp
  refine hK.out _ _ ⟨.inl (by kernel_rfl), trivial⟩ (fun hC0 => ?_)
  clear hK K
  (try simp only [Act.put, List.setIfInBounds_toArray, List.set_cons_zero, List.set_cons_succ])
  refine wpAnyL_done (by kernel_rfl) ?_ _
  have t1 : ¬ ((ol : Int) = (nt : Int)) := by omega
  go_wp2_with fail
  go_loopg [20] k (fun g v20 wr => ∃ i : Nat, g + i = k ∧ v20 = .int .i64 i ∧ Hid (Below w3.heap.size w3 wr))
  case atStart => exact ⟨0, rfl, rfl, Below.refl _ _⟩
  case round =>
    obtain ⟨i, hgi, rfl, HW⟩ := hrel
    have hin : i < nt ∨ i = k + 1 := by omega
    have f0 := (HW.out.cell (p := ⟨w.heap.size, 0, none⟩) (by show w.heap.size < _; omega)).trans e0
    have f1 := (HW.out.cell (p := ⟨w.heap.size, 1, none⟩) (by show w.heap.size < _; omega)).trans e1
    by_cases hik : i ≤ k
    · have hi : i < nt := by omega
      have b0 : (0 : Int) ≤ (i : Int) := by omega
      have b1 : (i : Int) < (nt : Int) := by omega
      have CR := Lib.hid (reached_any An nn cn At nt ct G i wr (HG3.out.below HW.out) (HNL3.out.below HG3.out HW.out) HOK.out hM hnt hi)
      unfold grV at CR
      have hsz := HW.out.size
      go_wp2_with fail
      refine CR.out.mono ?_
      rintro e w4 ⟨A6, c6, rfl, hown, hB4⟩
      have hlr : (reachL G i).length ≤ nt := by
        have := List.length_filter_le (fun x => mk (leadsN G i) x) (List.range G.length)
        rw [List.length_range] at this
        rw [← HN.out]; exact this
      have CC := containsOwn A6 c6 i _ (reachL G i) w4 hown (by omega)
      rw [reach_self (by rw [HN.out]; exact hi)] at CC
      have HW4 := Lib.hid (HW.out.trans (hB4.mono hsz))
      clear hown hB4 CR f0 f1
      by_cases heq : i = k
      · subst heq
        rw [HK2.out] at CC
        have CC := Lib.hid CC
        go_wp2_with fail
        refine CC.out.mono ?_
        rintro e w5 ⟨rfl, rfl⟩
        go_wp2
        go_ret2
        exact ⟨rfl, HB3.out.trans (HW4.out.mono (by omega))⟩
      · rw [HK3.out i (by omega)] at CC
        have CC := Lib.hid CC
        go_wp2_with fail
        refine CC.out.mono ?_
        rintro e w5 ⟨rfl, rfl⟩
        go_wp2
        go_roundg (gk - 1)
        case measure => omega
        case rel => exact ⟨i + 1, by omega, by go_num, HW4⟩
    · exfalso
      omega
end Go.Proofs.YtignndcjblfocaaDoor

