/- Merged texts: GraphOrders, GraphDepths, GraphReached. -/
import Derived.Test.YtkeclfhhilphpaaDoorGraphOrder
import Derived.Deep.RegionHeld3
import Derived.Laws.OwnMore
import Derived.WalkSpells
/- graph.Order. Conditions: at most 2^20 places. -/
namespace Go.Proofs.YtkeclfhhilphpaaDoor
open Go.RowKit Go.Proofs.YtkeclfhhilphpaaDoor.GraphPlain
set_option maxHeartbeats 4000000 in
theorem order_bad (An : Option Addr) (nn cn : Nat) (At : Option Addr) (nt ct : Nat) (R : List (List Int)) (w : World) (hg : GrAt w At nt R) (hb : ∀ r ∈ R, r.length ≤ 9223372036854775806) (hnt : nt ≤ 1048576) (hr : rightN nn R = false) :
    Calls Tryd.prog 27 #[grV An nn cn At nt ct] w fun e w' => e = .returned (.tuple #[.slice none 0 0, .int .i64 2]) ∧ Below w.heap.size w w' := by
  obtain ⟨W, hW, hB, hz, c0, c1⟩ := grBox w An nn cn At nt ct 65
  have C := Lib.hid (right_any An nn cn At nt ct R W (hg.below hB) hb (by omega))
  rw [hr] at C
  have HB := Lib.hid hB
  clear hB hg hb hr
  unfold grV at C ⊢
  go_enter Tryd.func27, Tryd.ntmps27
  go_wp2_with fail
  refine C.out.mono ?_
  rintro e w' ⟨rfl, hB'⟩
  have HB' := Lib.hid (HB.out.trans (hB'.mono (by omega)))
  clear hB'
  go_wp2
  go_ret2
  exact ⟨rfl, HB'.out⟩
set_option maxHeartbeats 4000000 in
theorem order_good (An : Option Addr) (nn cn : Nat) (At : Option Addr) (nt ct : Nat) (G : Gr) (w : World) (hg : GrAt w At nt (intG G)) (hok : okG G) (hb : ∀ r ∈ intG G, r.length ≤ 9223372036854775806) (hnt : nt ≤ 1048576) (hr : rightN nn (intG G) = true) :
    Calls Tryd.prog 27 #[grV An nn cn At nt ct] w fun e w' =>
      ((orderN G).length < nt ∧ e = .returned (.tuple #[.slice none 0 0, .int .i64 8]) ∨
        (orderN G).length = nt ∧ ∃ A c, e = .returned (.tuple #[.slice A nt c, .int .i64 0]) ∧ w'.ownsRow w.heap.size 3 1 (.slice A nt c) nt (natCells (orderN G))) ∧ Below w.heap.size w w' := by
  obtain ⟨W, hW, hB, hz, c0, c1⟩ := grBox w An nn cn At nt ct 65
  have C := Lib.hid (right_any An nn cn At nt ct _ W (hg.below hB) hb (by omega))
  rw [hr] at C
  have HB := Lib.hid hB
  have HG := Lib.hid (hg.below hB)
  have HOK := Lib.hid hok
  have HL := Lib.hid hb
  have HN := Lib.hid (show G.length = nt by have := hg.1; unfold intG at this; simpa using this)
  have HLN := Lib.hid (show (orderN G).length ≤ nt by rw [← HN.out]; exact (orderN_good G).len)
  clear hB hg hb hr hok
  unfold grV at C ⊢
  go_enter Tryd.func27, Tryd.ntmps27
  go_wp2_with fail
  refine C.out.mono ?_
  rintro e w1 ⟨rfl, hB1⟩
  have c0' := (hB1.cell (p := ⟨w.heap.size, 0, none⟩) (by show w.heap.size < _; omega)).trans c0
  have c1' := (hB1.cell (p := ⟨w.heap.size, 1, none⟩) (by show w.heap.size < _; omega)).trans c1
  have C2 := Lib.hid (order_any An nn cn At nt ct G w1 (HG.out.below hB1) HOK.out HL.out hnt)
  have HB1 := Lib.hid (HB.out.trans (hB1.mono (by omega)))
  have hz1 := hB1.size
  clear hB1 c0 c1
  unfold grV at C2
  go_wp2_with fail
  refine C2.out.mono ?_
  rintro e w2 ⟨A, c, rfl, hown, hB2⟩
  have c1'' := (hB2.cell (p := ⟨w.heap.size, 1, none⟩) (by show w.heap.size < _; omega)).trans c1'
  have HO := Lib.hid (own_lowerG hown (show w.heap.size ≤ _ by omega))
  have HB2 := Lib.hid (HB1.out.trans (hB2.mono (by omega)))
  clear hown hB2 c0' c1'
  rcases Nat.lt_or_ge (orderN G).length nt with h | h
  · have hi : ((orderN G).length : Int) < (nt : Int) := by omega
    go_wp2
    go_ret2
    exact ⟨.inl ⟨h, rfl⟩, HB2.out⟩
  · have he : (orderN G).length = nt := by have := HLN.out; omega
    rw [he] at HO ⊢
    go_wp2
    go_ret2
    exact ⟨.inr ⟨he, A, c, rfl, HO.out⟩, HB2.out⟩
end Go.Proofs.YtkeclfhhilphpaaDoor
/- graph.Depths. Conditions: at most 2^20 places. -/
namespace Go.Proofs.YtkeclfhhilphpaaDoor
open Go.RowKit Go.Proofs.YtkeclfhhilphpaaDoor.GraphPlain
theorem natCells_eq (l : List Nat) : natCells l = numCells (l.map Int.ofNat) := by simp [natCells, numCells]
theorem natCells_len (l : List Nat) : (natCells l).length = l.length := by simp [natCells]
theorem natCells_at {l : List Nat} {k : Nat} (h : k < l.length) : (natCells l)[k]? = some (.int .i64 (sn l k : Int)) := by
  unfold natCells sn
  rw [List.getElem?_map, List.getD_eq_getElem?_getD, List.getElem?_eq_getElem h]; rfl
theorem natCells_set (l : List Nat) (k v : Nat) : (natCells l).set k (.int .i64 (v : Int)) = natCells (l.set k v) := by
  unfold natCells; rw [List.map_set]
theorem natCells_rep (n : Nat) : natCells (List.replicate n 0) = List.replicate n (.int .i64 0) := by simp [natCells]
theorem own_cellG {w : World} {base : Nat} {e : TypeId} {T n c : Nat} {d : List Nat} (h : w.ownsRow base e 1 (.slice (some ⟨T, 0, none⟩) n c) n (natCells d)) {k : Nat} (hk : k < d.length) : w.cell? ⟨T, k, none⟩ = some (.int .i64 (sn d k : Int)) := by
  have := h.cells rfl k _ (natCells_at hk)
  rwa [addT] at this
/-- What the inner loop does with one row. -/
def deepJ (G : Gr) (d : List Nat) (i j : Nat) : List Nat := d.set i (mostN d ((row G i).take j))
theorem deepJ_zero {G : Gr} {d : List Nat} {i : Nat} (h : sn d i = 0) : deepJ G d i 0 = d := by
  unfold deepJ
  refine list_ext_sn (by simp) fun x hx => ?_
  rw [sn_set]
  by_cases e : x = i ∧ i < d.length
  · rw [if_pos e, e.1, h]; rfl
  · rw [if_neg e]
theorem sn_deepJ {G : Gr} {d : List Nat} {i j x : Nat} (hi : i < d.length) : sn (deepJ G d i j) x = if x = i then mostN d ((row G i).take j) else sn d x := by
  unfold deepJ
  rw [sn_set]
  by_cases e : x = i
  · rw [if_pos ⟨e, hi⟩, if_pos e]
  · rw [if_neg (fun h => e h.1), if_neg e]
theorem deepJ_next {G : Gr} {d : List Nat} {i j k : Nat} (hk : (row G i)[j]? = some k) : (deepJ G d i j).set i (max (mostN d ((row G i).take j)) (sn d k)) = deepJ G d i (j + 1) := by
  unfold deepJ
  rw [List.set_set, List.take_add_one, hk]
  show d.set i _ = d.set i (mostN d ((row G i).take j ++ [k]))
  rw [mostN_snoc]
theorem deepJ_end {G : Gr} {d : List Nat} {i : Nat} : (deepJ G d i (row G i).length).set i (mostN d (row G i) + 1) = deepI G d i := by
  unfold deepJ deepI
  rw [List.set_set]
end Go.Proofs.YtkeclfhhilphpaaDoor
/- graph.reached: the places to which ways lead from some. Conditions: a graph of at most 2^20 places in all rows. -/
namespace Go.Proofs.YtkeclfhhilphpaaDoor
set_option linter.unusedVariables false
set_option linter.unusedSimpArgs false
open Go.RowKit Go.Proofs.YtkeclfhhilphpaaDoor.GraphPlain
theorem wpList_append_nil {P : Program} (w : World) {ops : Array Oper} {rest : List Oper} {o : Oper} {a : Act} {Q : Exit → Act → World → Prop} (hgd : o.guard = none) (s x : Operand) (t : TypeId)
    (ho : o.op = .call { callee := .builtin .append, args := #[s, x], argTypes := #[t, t] }) (base : Nat) (e : TypeId) (i : TypeInfo) (h1 : P.underlying t = some (.slice e)) (h2 : P.info? e = some i) (hsz : i.size = 1)
    (v : Value) (n : Nat) (xs : List Value) (hs : a.eval s = v) (hown : w.ownsRow base e 1 v n xs) (hx : a.eval x = .slice none 0 0)
    (h : wpList P ops Q rest (a.put o.dst v) w) : wpList P ops Q (o :: rest) a w := by
  refine wpList_plain hgd fun K' hK' => ?_
  have hrun := run_append_owned_none (P := P) (w := w) base t o.type e i 1 h1 h2 v n xs hown
  unfold Oper.wp
  simp [execOp, ho, hs, hx, resolve, invoke, builtin, hrun, Result.andThen]
  exact hK' _ _ h
theorem ownB_belowG {w w' : World} {base : Nat} {e : TypeId} {size : Nat} {v : Value} {n : Nat} {xs : List Value} (h : w.ownsRow base e size v n xs) (hb : Below w.heap.size w w') : w'.ownsRow base e size v n xs := by
  refine ⟨h.1, ?_⟩
  rcases h.2 with h2 | ⟨g, cap, cur, hv, hg, hh, r⟩
  · exact .inl h2
  · exact .inr ⟨g, cap, cur, hv, hg, (hb.block g (Array.getElem?_eq_some_iff.1 hh).1).trans hh, r⟩
/-- A row without its last cell. -/
theorem ownsRow_cut {w : World} {base n c : Nat} {e : TypeId} {A : Option Addr} {xs : List Value} {x : Value} (h : w.ownsRow base e 1 (.slice A (n + 1) c) (n + 1) (xs ++ [x])) : w.ownsRow base e 1 (.slice A n c) n xs := by
  have hl := h.1
  rw [List.length_append] at hl
  simp at hl
  refine ⟨by omega, ?_⟩
  rcases h.2 with ⟨h1, h2⟩ | ⟨g, cap, cur, hv, hg, hh, hle, hm, hcs, ht⟩
  · omega
  · cases hv
    refine .inr ⟨g, c, cur, rfl, hg, hh, by omega, hm, hcs, ?_⟩
    have e1 : cur.toList.take (n * 1) = (cur.toList.take ((n + 1) * 1)).take n := by rw [List.take_take]; congr 1; omega
    rw [e1, ht, List.take_append_of_le_length (by omega), List.take_of_length_le (by omega)]
def GrNil (w : World) (A : Option Addr) (n : Nat) : Prop := ∀ k, k < n → ∀ a m c, A = some a → w.cell? (a.add k) = some (.slice none m c) → c = 0
theorem GrNil.below {w w' : World} {A : Option Addr} {n : Nat} {R : List (List Int)} (h : GrNil w A n) (hg : GrAt w A n R) (hb : Below w.heap.size w w') : GrNil w' A n := by
  intro k hk a m c hA hc
  obtain ⟨a', B, r, c', hA', _, hlt, h0, _⟩ := hg.2 k hk
  rw [hA] at hA'
  cases hA'
  exact h k hk a m c hA (by rw [← hb.cell (p := a.add k) (by rw [addBlockT]; exact hlt)]; exact hc)
/-- A clone of a row of numbers. -/
def TellInts (l : List Int) (w : World) (e : Ending) (w' : World) : Prop := ∃ A c, e = .returned (.slice A l.length c) ∧ w'.ownsRow w.heap.size 3 1 (.slice A l.length c) l.length (numCells l) ∧ Below w.heap.size w w'
theorem eqIntsNil (a : Addr) (n c : Nat) (W : World) : (binOp .eql 63 (.slice (some a) n c) (.slice none 0 0)).run Tryd.prog W = .ok (.bool false) W := by kernel_rfl
theorem eqIntsNone (n c : Nat) (W : World) : (binOp .eql 63 (.slice none n c) (.slice none 0 0)).run Tryd.prog W = .ok (.bool true) W := by kernel_rfl
def total (G : Gr) : Nat := (G.map List.length).sum
theorem sumTo_le (G : Gr) (s : List Nat) : ∀ n, n ≤ G.length → sumTo G s n ≤ ((G.take n).map List.length).sum := by
  intro n
  induction n with
  | zero => intro _; exact Nat.zero_le _
  | succ n ih =>
    intro hn
    unfold sumTo
    have h1 := ih (by omega)
    have h2 : ((G.take (n + 1)).map List.length).sum = ((G.take n).map List.length).sum + (row G n).length := by
      rw [List.take_add_one, List.getElem?_eq_getElem (show n < G.length by omega)]
      unfold row
      rw [List.getD_eq_getElem?_getD, List.getElem?_eq_getElem (show n < G.length by omega), List.map_append, List.sum_append]
      simp only [Option.toList_some, List.map_cons, List.map_nil, List.sum_cons, List.sum_nil, Option.getD_some]
      omega
    split <;> omega
theorem row_total (G : Gr) (i : Nat) : (row G i).length ≤ total G := by
  unfold total row
  rw [List.getD_eq_getElem?_getD]
  cases h : G[i]? with
  | none => simp
  | some r =>
    simp only [Option.getD_some]
    have hm := List.mem_of_getElem? h
    clear h
    induction G with
    | nil => cases hm
    | cons x G ih =>
      rw [List.map_cons, List.sum_cons]
      rcases List.mem_cons.1 hm with rfl | hm
      · omega
      · have := ih hm; omega
theorem waitM_le (G : Gr) (s : List Nat) (f : Nat) : waitM G s (row G f) ≤ 2 * total G := by
  unfold waitM
  have h1 := row_total G f
  have h2 := sumTo_le G s G.length (Nat.le_refl _)
  rw [List.take_length] at h2
  unfold total at *
  omega
/-- Where ways lead. -/
def reachL (G : Gr) (f : Nat) : List Nat := (List.range G.length).filter fun x => mk (leadsN G f) x
def seenL (s : List Nat) (k : Nat) : List Nat := (List.range k).filter fun x => decide (0 < sn s x)
theorem seenL_next (s : List Nat) (k : Nat) : seenL s (k + 1) = if 0 < sn s k then seenL s k ++ [k] else seenL s k := by
  unfold seenL
  rw [List.range_succ, List.filter_append]
  by_cases h : 0 < sn s k
  · simp [h]
  · simp [h]
theorem seenL_end {G : Gr} (hG : okG G) {f : Nat} {s : List Nat} (h : Waits G f s []) : seenL s G.length = reachL G f := by
  unfold seenL reachL
  apply List.filter_congr
  intro x _
  have h1 := h.done x
  have h2 := leadsN_iff hG f x
  rw [Bool.eq_iff_iff, decide_eq_true_iff]
  constructor
  · intro h3; exact h2.2 (h1.1 (by omega))
  · intro h3; have := h1.2 (h2.1 h3); omega
theorem last_of {l : List Nat} (h : l ≠ []) : ∃ l' i, l = l' ++ [i] := ⟨l.dropLast, l.getLast h, (List.dropLast_concat_getLast h).symm⟩
theorem own_atG {w : World} {base n : Nat} {e : TypeId} {v : Value} {xs : List Value} (h : w.ownsRow base e 1 v (n + 1) xs) : ∃ g c, v = .slice (some ⟨g, 0, none⟩) (n + 1) c ∧ base ≤ g ∧ n + 1 ≤ c ∧ c ≤ 9223372036854775807 := by
  rcases h.2 with ⟨_, h2⟩ | ⟨g, cap, cur, hv, hg, _, hle, hm, _⟩
  · omega
  · exact ⟨g, cap, hv, hg, hle, by unfold maxLen at hm; exact hm⟩
end Go.Proofs.YtkeclfhhilphpaaDoor
